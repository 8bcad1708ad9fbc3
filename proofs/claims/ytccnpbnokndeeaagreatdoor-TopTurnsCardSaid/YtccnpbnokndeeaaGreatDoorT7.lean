/- Texts for the law: A1d. -/
import Derived.Test.YtccnpbnokndeeaaGreatDoorT6
noncomputable section
open Option renaming bind→β
open Sum renaming inr→ι,inl→κ
namespace Go.Proofs.YtccnpbnokndeeaaGreatDoor
open Go Go.Ab
set_option maxRecDepth 20000
set_option maxHeartbeats 1000000
def zW (s:eA) (cZ:Int) (most:Int) (vv:Int) (qH:List b7):Option ((Int×(List b7))⊕(((List aV)×Int)⊕(List b7))):=
 (bif(decide (vv<((s.bM.length:Nat):Int))) then(β (aC s.bM vv) (fun e=>(β (C6 e cZ most) (fun sv=>(bif(sv.2!=0) then some (ι (κ ([],30))) else(β (aC qH vv) (fun e1=>some (κ ((U (vv+1)),aU qH vv sv.1))))))))) else some (ι (ι qH)))
def zX (s:eA) (sections:List b7) (m1:List aV) (aR:Int) (l1:List aV):Option ((Int×(List aV))⊕(((List aV)×Int)⊕(List aV))):=
 (bif(decide (aR<((m1.length:Nat):Int))) then(β (aC sections aR) (fun e2=>(β (aC sections (U (aR+1))) (fun e3=>(β (C9 e2 e3) (fun mv=>(bif(((mv.Rows.length:Nat):Int)==0) then some (ι (κ ([],30))) else(β (aC s.bM (U (aR+1))) (fun e4=>(β (aC s.bM aR) (fun e5=>(β (aC l1 aR) (fun e6=>some (κ ((U (aR+1)),aU l1 aR (⟨U (e4.Z -e5.Z),mv⟩:aV)))))))))))))))) else some (ι (ι l1)))
def C_ (s:eA) (cZ:Int) (most:Int):Option ((List aV)×Int):=
 (β (zj s) (fun cv=>(bif(cv !=0) then some ([],cv) else(β (kn 32 (⟨0,[]⟩:b7) ((s.bM.length:Nat):Int)) (fun m=>(β ((bb (fun q=>zW s cZ most q.1 q.2) (0,m)):Option (((List aV)×Int)⊕(List b7))) (Sum.elim (fun q=>some q) (fun sections=>(β (kn 40 (⟨0,(⟨0,[]⟩:b7)⟩:aV) (U (((s.bM.length:Nat):Int) -1))) (fun m1=>(β ((bb (fun q=>zX s sections m1 q.1 q.2) (0,m1)):Option (((List aV)×Int)⊕(List aV))) (Sum.elim (fun q=>some q) (fun l=>some (l,0))))))))))))))
theorem akA (s:eA) (cZ:Int) (most:Int) (r:(List aV)×Int) (h:C_ s cZ most=some r):Holds Tryz.prog 29 [rl s,I cZ,I most] [] (.bR [(an cy) r.1,I r.2]) []:=by
 unfold C_ at h;refine bm Tryz.func29 rfl Tryz.ntmps29 rfl rfl rfl (fun lim=>?_);refine aa 3 rfl (ay (aq 1 rfl ?_));obtain⟨cv,bx,h⟩:=ah h;refine aM Ua (VA s cv bx) rfl rfl rfl rfl rfl rfl rfl ?_;refine af 1 rfl (aa 2 rfl ?_);refine ao (b:=cv !=0) rfl (fun c2=>?_) (fun c2=>?_)
 ·replace h:=ai h c2;refine aa 3 rfl (Ze ?_);cases h;refine a8 (bp ab rfl rfl ?_);exact⟨cF,aB _ rfl,trivial⟩
 ·replace h:=aj h c2;refine Zk (aq 2 rfl ?_);refine bg cN s.bM ab rfl rfl rfl rfl rfl rfl ?_;obtain⟨m,dt,h⟩:=ah h;refine Kn eM (⟨0,[]⟩:b7) ((s.bM.length:Nat):Int) m dt ab rfl rfl rfl rfl rfl rfl rfl rfl rfl rfl rfl rfl rfl rfl ?_;refine af 1 rfl ?_;obtain⟨y,iX,h⟩:=ah h;refine bJ (X:=List b7) [3] [3] (fun w=>[(9,.arr 24 0 w.length)]) (fun w=>[(24,some ⟨138,2,w.map eM⟩)]) (fun w=>ι w=y) rfl rfl ?_ ?_
  ·skip;refine aq 2 rfl ?_;refine bg cN s.bM ab rfl rfl rfl rfl rfl rfl ?_;refine af 1 rfl (a6 ?_);refine bY (X:=Int×(List b7)) (Y:=((List aV)×Int)⊕(List b7)) [1,2,3,27] [3] (fun q=>[(28,I q.1),(9,.arr 24 0 q.2.length)]) (fun q=>[(24,some ⟨138,2,q.2.map eM⟩)]) (fun q=>zW s cZ most q.1 q.2) (0,m) [(24,some 24),(3,some 3)] iX ⟨rfl,rfl,rfl,rfl,rfl,⟨ag _ rfl,⟨rfl,rfl,rfl⟩,trivial⟩,⟨⟨_,rfl,rfl,rfl,aD (enc:=eM) m (fun _=>rfl)⟩,trivial⟩⟩ (fun x vR vz aP dC=>?_);obtain⟨vv,qH⟩:=x;change zW s cZ most vv qH=_ at aP;unfold zW at aP;refine aa 1 rfl (ay ?_);refine ao (b:=decide (vv<((s.bM.length:Nat):Int))) rfl (fun c9=>?_) (fun c9=>?_)
   ·replace aP:=ai aP c9;refine Zk (ay (a6 (aa 2 rfl (aq 3 rfl ?_))));obtain⟨e,eO,aP⟩:=ah aP;refine bn cN s.bM vv e eO ab rfl rfl rfl rfl rfl rfl rfl rfl rfl ?_;refine Zr 3 rfl ?_;obtain⟨sv,eG,aP⟩:=ah aP;refine aM agk (akv e cZ most sv eG) rfl rfl rfl rfl rfl rfl rfl ?_;refine af 6 rfl (ay (aa 2 rfl ?_));refine ao (b:=sv.2!=0) rfl (fun dn=>?_) (fun dn=>?_)
    ·replace aP:=ai aP dn;refine aa 2 rfl (Ze (aW (aF ?_)));obtain⟨t,j9,hq⟩:=aZ aP;subst hq;have hq:t=_:=dC;subst hq;refine aF (aW ?_);obtain⟨t1,gV,hq⟩:=bT j9;subst hq;have hq:=bL h;replace hq:=ar hq;subst hq;refine aF ?_;cases gV;refine a8 (bp ab rfl rfl ?_);exact⟨cF,aB _ rfl,trivial⟩
    ·replace aP:=aj aP dn;refine Zk (aQ 3 rfl ?_);obtain⟨e1,mj,aP⟩:=ah aP;refine ew eM qH vv e1 mj rfl ab rfl rfl rfl rfl rfl rfl rfl rfl rfl rfl ?_;refine jU eM qH vv e1 sv.1 mj ab rfl rfl rfl rfl rfl rfl rfl rfl rfl rfl rfl rfl ?_;refine aA nd (a_ (ak (aQ 2 rfl (aA nd ?_))));have mW:=ar aP;subst mW;refine ak ⟨rfl,((U (vv+1)),aU qH vv sv.1),[(24,some 24),(3,some 3)],⟨rfl,rfl,rfl,rfl,rfl,⟨ag _ rfl,⟨rfl,rfl,(by first|rfl|(simp [aU];done)|omega|(dsimp only;omega)|(simp [aU];omega))⟩,trivial⟩,⟨⟨_,rfl,rfl,rfl,aD (enc:=eM) (aU qH vv sv.1) (fun _=>rfl)⟩,trivial⟩⟩,dC⟩
   ·replace aP:=aj aP c9;refine bP (aY ?_);obtain⟨t2,jr,hq⟩:=aZ aP;subst hq;have hq:t2=_:=dC;subst hq;refine aY (bQ ?_);have kL:=ar jr;refine ak ⟨rfl,qH,[(24,some 24),(3,some 3)],⟨rfl,rfl,rfl,rfl,rfl,⟨⟨rfl,rfl,(by first|rfl|(simp [aU];done)|omega|(dsimp only;omega)|(simp [aU];omega))⟩,trivial⟩,⟨⟨_,rfl,rfl,rfl,aD (enc:=eM) qH (fun _=>rfl)⟩,trivial⟩⟩,kL⟩
  ·intro sections jt;subst jt;replace h:=dI h;refine aq 2 rfl ?_;refine bg cN s.bM ab rfl rfl rfl rfl rfl rfl ?_;refine Zr 1 rfl ?_;obtain⟨m1,kZ,h⟩:=ah h;refine Kn cy (⟨0,(⟨0,[]⟩:b7)⟩:aV) (U (((s.bM.length:Nat):Int) -1)) m1 kZ ab rfl rfl rfl rfl rfl rfl rfl rfl rfl rfl rfl rfl rfl rfl ?_;refine af 1 rfl ?_;obtain⟨y1,akB,h⟩:=ah h;refine bJ (X:=List aV) [] [] (fun w1=>[(13,.arr 53 0 w1.length)]) (fun w1=>[(53,some ⟨140,3,w1.map cy⟩)]) (fun w1=>ι w1=y1) rfl rfl ?_ ?_
   ·skip;refine aa 3 rfl (a6 ?_);refine bY (X:=Int×(List aV)) (Y:=((List aV)×Int)⊕(List aV)) [3,55] [3] (fun q=>[(56,I q.1),(9,.arr 24 0 sections.length),(13,.arr 53 0 q.2.length)]) (fun q=>[(24,some ⟨138,2,sections.map eM⟩),(53,some ⟨140,3,q.2.map cy⟩)]) (fun q=>zX s sections m1 q.1 q.2) (0,m1) [(24,some 24),(53,some 53),(3,some 3)] akB ⟨rfl,rfl,rfl,rfl,rfl,⟨ag _ rfl,⟨rfl,rfl,(by first|rfl|(simp [aU];done)|omega|(dsimp only;omega)|(simp [aU];omega))⟩,⟨rfl,rfl,(by first|rfl|(simp [aU];done)|omega|(dsimp only;omega)|(simp [aU];omega))⟩,trivial⟩,⟨⟨_,rfl,rfl,rfl,aD (enc:=eM) sections (fun _=>rfl)⟩,⟨_,rfl,rfl,rfl,aD (enc:=cy) m1 (fun _=>rfl)⟩,trivial⟩⟩ (fun x1 jY gS iZ Lq=>?_)
    obtain⟨aR,l1⟩:=x1;change zX s sections m1 aR l1=_ at iZ;unfold zX at iZ;refine aa 1 rfl (ay ?_);refine ao (b:=decide (aR<((m1.length:Nat):Int))) rfl (fun gC=>?_) (fun gC=>?_)
    ·replace iZ:=ai iZ gC;refine Zk (ay (a6 (aa 2 rfl (aq 2 rfl ?_))));obtain⟨e2,kr,iZ⟩:=ah iZ;refine ew eM sections aR e2 kr (by first|rfl|(simp [aU];done)|omega|(dsimp only;omega)|(simp [aU];omega)) ab rfl rfl rfl rfl rfl rfl rfl rfl rfl rfl ?_
     refine gO eM sections aR e2 _ kr ab rfl rfl rfl rfl rfl rfl rfl ?_;refine Zr 3 rfl ?_;obtain⟨e3,pI,iZ⟩:=ah iZ;refine ew eM sections (U (aR+1)) e3 pI (by first|rfl|(simp [aU];done)|omega|(dsimp only;omega)|(simp [aU];omega)) ab rfl rfl rfl rfl rfl rfl rfl rfl rfl rfl ?_
     refine gO eM sections (U (aR+1)) e3 _ pI ab rfl rfl rfl rfl rfl rfl rfl ?_;obtain⟨mv,qA,iZ⟩:=ah iZ;refine aM agl (akz e2 e3 mv qA) rfl rfl rfl rfl rfl rfl rfl ?_;refine Zr 2 rfl ?_;refine aA (fun _=>by kernel_rfl) ?_;refine ak (ay (aq 2 rfl ?_));refine bg bC mv.Rows ab rfl rfl rfl rfl rfl rfl ?_;refine af 1 rfl ?_;refine ao (b:=((mv.Rows.length:Nat):Int)==0) rfl (fun kN=>?_) (fun kN=>?_)
     ·replace iZ:=ai iZ kN;refine aa 2 rfl (Ze (aW (aF ?_)));obtain⟨t3,oT,hq⟩:=aZ iZ;subst hq;have hq:t3=_:=Lq;subst hq;refine aF (aW ?_);obtain⟨t4,wA,hq⟩:=bT oT;subst hq;have hq:=bL h;replace hq:=ar hq;subst hq;refine aF ?_;cases wA;refine a8 (bp ab rfl rfl ?_);exact⟨cF,aB _ rfl,trivial⟩
     ·replace iZ:=aj iZ kN;refine Zk (aQ 6 rfl ?_);obtain⟨e4,nc,iZ⟩:=ah iZ;refine bn cN s.bM (U (aR+1)) e4 nc ab rfl rfl rfl rfl rfl rfl rfl rfl rfl ?_;refine Zr 5 rfl ?_;obtain⟨e5,ui,iZ⟩:=ah iZ;refine bn cN s.bM aR e5 ui ab rfl rfl rfl rfl rfl rfl rfl rfl rfl ?_;refine Zr 5 rfl ?_;obtain⟨e6,mi,iZ⟩:=ah iZ;refine ew cy l1 aR e6 mi (by first|rfl|(simp [aU];done)|omega|(dsimp only;omega)|(simp [aU];omega)) ab rfl rfl rfl rfl rfl rfl rfl rfl rfl rfl ?_
      refine jU cy l1 aR e6 (⟨U (e4.Z -e5.Z),mv⟩:aV) mi ab rfl rfl rfl rfl rfl rfl rfl rfl rfl rfl rfl rfl ?_;refine aA (fun _=>by kernel_rfl) ?_;refine a_ (ak (aQ 2 rfl (aA nd ?_)));have sS:=ar iZ;subst sS;refine ak ⟨rfl,((U (aR+1)),aU l1 aR (⟨U (e4.Z -e5.Z),mv⟩:aV)),[(24,some 24),(53,some 53),(3,some 3)],⟨rfl,rfl,rfl,rfl,rfl,⟨ag _ rfl,⟨rfl,rfl,(by first|rfl|(simp [aU];done)|omega|(dsimp only;omega)|(simp [aU];omega))⟩,⟨rfl,rfl,(by first|rfl|(simp [aU];done)|omega|(dsimp only;omega)|(simp [aU];omega))⟩,trivial⟩,⟨⟨_,rfl,rfl,rfl,aD (enc:=eM) sections (fun _=>rfl)⟩,⟨_,rfl,rfl,rfl,aD (enc:=cy) (aU l1 aR (⟨U (e4.Z -e5.Z),mv⟩:aV)) (fun _=>rfl)⟩,trivial⟩⟩,Lq⟩
    ·replace iZ:=aj iZ gC;refine bP (aY ?_);obtain⟨t5,qh,hq⟩:=aZ iZ;subst hq;have hq:t5=_:=Lq;subst hq;refine aY (bQ ?_);have sN:=ar qh;refine ak ⟨rfl,l1,[(53,some 53)],⟨rfl,rfl,rfl,rfl,rfl,⟨⟨rfl,rfl,(by first|rfl|(simp [aU];done)|omega|(dsimp only;omega)|(simp [aU];omega))⟩,trivial⟩,⟨⟨_,rfl,rfl,rfl,aD (enc:=cy) l1 (fun _=>rfl)⟩,trivial⟩⟩,sN⟩
   ·intro l akC;subst akC;replace h:=dI h;refine aa 3 rfl ?_;refine ed [7] [] [(53,some ⟨140,3,l.map cy⟩)] [] [(6,an cy l)] [] rfl rfl rfl rfl rfl ⟨rfl,by decide,trivial⟩ ⟨cV rfl (by first|rfl|(simp [aU];done)|omega|(dsimp only;omega)|(simp [aU];omega)) (fun _=>rfl),trivial⟩ trivial ?_
    refine aK ?_;cases h;exact a8 (bp ab rfl rfl (aB _ rfl))
def GR (p0:Int) (p1:Int) (p2:List aV) (p3:List Df):(Int×(List aV)×(List Df)):=
 (bif(p0 !=0) then(p0,[],[]) else(p0,p2,p3))
theorem akD (p0:Int) (p1:Int) (p2:List aV) (p3:List Df) (r:Int×(List aV)×(List Df)) (h:GR p0 p1 p2 p3=r):Kw Tryz.prog 30 [.ref 1000 0 0,.ref 1001 0 0,.ref 1002 0 0,.ref 1003 0 0] [(1000,some ⟨44,1,[I p0]⟩),(1001,some ⟨44,1,[I p1]⟩),(1002,some ⟨43,1,[an cy p2]⟩),(1003,some ⟨23,1,[an cq p3]⟩)] (.bR []) [(1000,some ⟨44,1,[I p0]⟩),(1001,some ⟨44,1,[I r.1]⟩),(1002,some ⟨43,1,[(an cy) r.2.1]⟩),(1003,some ⟨23,1,[(an cq) r.2.2]⟩)]:=by
 unfold GR at h;refine ai' Tryz.func30 rfl Tryz.ntmps30 rfl rfl rfl (fun lim=>?_);refine aa 2 rfl (aa 2 rfl ?_);refine ao (b:=p0 !=0) rfl (fun c1=>?_) (fun c1=>?_)
 ·replace h:=ai h c1;refine aQ 2 rfl (aA nd ?_);have e2:=h;subst e2;refine od ?_;exact gu [(1000,some 1000),(1001,some 1001),(1002,some 1002),(1003,some 1003)] ab rfl rfl rfl rfl (aB _ rfl) ⟨⟨_,rfl,rfl,rfl,.inl ⟨rfl,aw rfl⟩⟩,⟨_,rfl,rfl,rfl,.inl ⟨rfl,aw rfl⟩⟩,⟨_,rfl,rfl,rfl,.inr ⟨⟨cF,trivial⟩,⟨rfl,trivial⟩⟩⟩,⟨_,rfl,rfl,rfl,.inr ⟨⟨cF,trivial⟩,⟨rfl,trivial⟩⟩⟩,trivial⟩
 ·replace h:=aj h c1;refine b_ ?_;have e3:=h;subst e3;refine od ?_;exact gu [(1000,some 1000),(1001,some 1001),(1002,some 1002),(1003,some 1003)] ab rfl rfl rfl rfl (aB _ rfl) ⟨⟨_,rfl,rfl,rfl,.inl ⟨rfl,aw rfl⟩⟩,⟨_,rfl,rfl,rfl,.inl ⟨rfl,aw rfl⟩⟩,⟨_,rfl,rfl,rfl,.inl ⟨rfl,aw rfl⟩⟩,⟨_,rfl,rfl,rfl,.inl ⟨rfl,aw rfl⟩⟩,trivial⟩
def lU (x:eA) (dw:Int) (cZ:Int) (most:Int):Option ((List aV)×(List Df)×Int):=
 (β (uh x dw) (fun tv=>(β (C_ tv cZ most) (fun bv=>(β (zk tv.dm) (fun dv=>(cU (GR bv.2 0 bv.1 dv) (fun vz=>some (vz.2.1,vz.2.2,vz.1)))))))))
theorem GS (x:eA) (dw:Int) (cZ:Int) (most:Int) (r:(List aV)×(List Df)×Int) (h:lU x dw cZ most=some r):Holds Tryz.prog 7 [rl x,I dw,I cZ,I most] [] (.bR [(an cy) r.1,(an cq) r.2.1,I r.2.2]) []:=by
 unfold lU at h;refine aja Tryz.func7 rfl Tryz.ntmps7 rfl rfl (fun lim=>?_);refine Kx ?_;refine fY 4 rfl ?_;refine Kx ?_;refine aQ 2 rfl ?_;obtain⟨tv,bx,h⟩:=ah h;refine aM af4 (aj3 x dw tv bx) rfl rfl rfl rfl rfl rfl rfl ?_;refine af 2 rfl ?_;refine Kx ?_;refine aQ 3 rfl ?_;obtain⟨bv,e_,h⟩:=ah h;refine aM af5 (akA tv cZ most bv e_) rfl rfl rfl rfl rfl rfl rfl ?_;refine af 6 rfl ?_;refine ajb [(1000,some 12),(1001,some 10),(1002,some 8),(1003,some 9),(11,some 11)] [(8,.ref 1002 0 0),(9,.ref 1003 0 0),(10,.ref 1001 0 0),(11,.ref 11 0 0)] [(1000,some ⟨44,1,[I bv.2]⟩),(1001,some ⟨44,1,[I 0]⟩),(1002,some ⟨43,1,[an cy bv.1]⟩),(1003,some ⟨23,1,[.bF]⟩),(11,some ⟨25,2,[.agg [an cN tv.bM,an cq tv.dm]]⟩)] [1000,1001,1002,1003] af6 rfl rfl rfl rfl rfl rfl rfl ⟨⟨rfl,rfl,rfl⟩,⟨rfl,rfl,rfl⟩,⟨rfl,rfl,rfl⟩,⟨rfl,rfl,rfl⟩,trivial⟩ rfl rfl ⟨⟨rfl,rfl,rfl⟩,⟨rfl,rfl,rfl⟩,⟨rfl,rfl,rfl⟩,⟨rfl,rfl,rfl⟩,trivial⟩ rfl ⟨⟨_,rfl,rfl,rfl,.inl ⟨rfl,aw rfl⟩⟩,⟨_,rfl,rfl,rfl,.inl ⟨rfl,aw rfl⟩⟩,⟨_,rfl,rfl,rfl,.inl ⟨rfl,aw rfl⟩⟩,⟨_,rfl,rfl,rfl,.inl ⟨rfl,aw rfl⟩⟩,⟨_,rfl,rfl,rfl,.inl ⟨rfl,aw rfl⟩⟩,trivial⟩ (fun lim=>?_);refine aq 3 rfl ?_;obtain⟨dv,fx,h⟩:=ah h;refine aM T9 (VB tv.dm dv fx) rfl rfl rfl rfl rfl rfl rfl ?_;refine Zr 3 rfl ?_;refine aA (fun _=>by kernel_rfl) ?_;refine ak (aK ?_);obtain⟨vz,dt,h⟩:=dH h;have e5:=ar h;subst e5;refine a8 ⟨_,_,_,[(1000,some 1000),(1001,some 1001),(1002,some 1002),(1003,some 1003)],[(1000,some 1000),(1001,some 1001),(1002,some 1002),(1003,some 1003)],[(1000,some ⟨44,1,[I bv.2]⟩),(1001,some ⟨44,1,[I vz.1]⟩),(1002,some ⟨43,1,[an cy vz.2.1]⟩),(1003,some ⟨23,1,[an cq vz.2.2]⟩)],[(8,1002),(9,1003),(10,1001)],akD bv.2 0 bv.1 dv vz dt,rfl,rfl,⟨⟨_,rfl,rfl,rfl,.inl ⟨rfl,aw rfl⟩⟩,⟨_,rfl,rfl,rfl,.inl ⟨rfl,aw rfl⟩⟩,⟨_,rfl,rfl,rfl,.inl ⟨rfl,aw rfl⟩⟩,⟨_,rfl,rfl,rfl,.inl ⟨rfl,aw rfl⟩⟩,trivial⟩,rfl,rfl,⟨⟨_,rfl,rfl,rfl,.inl ⟨rfl,aw rfl⟩⟩,⟨_,rfl,rfl,rfl,.inl ⟨rfl,aw rfl⟩⟩,⟨_,rfl,rfl,rfl,.inl ⟨rfl,aw rfl⟩⟩,⟨_,rfl,rfl,rfl,.inl ⟨rfl,aw rfl⟩⟩,trivial⟩,⟨⟨by decide,rfl,rfl,⟨_,rfl⟩,⟨_,rfl⟩,⟨_,rfl⟩⟩,⟨by decide,rfl,rfl,⟨_,rfl⟩,⟨_,rfl⟩,⟨_,rfl⟩⟩,⟨by decide,rfl,rfl,⟨_,rfl⟩,⟨_,rfl⟩,⟨_,rfl⟩⟩,⟨by decide,rfl,rfl,⟨_,rfl⟩,⟨_,rfl⟩,⟨_,rfl⟩⟩,trivial⟩,⟨rfl,⟨by decide,rfl,rfl,⟨_,rfl⟩,⟨_,rfl⟩,⟨_,rfl⟩⟩,rfl,⟨by decide,rfl,rfl,⟨_,rfl⟩,⟨_,rfl⟩,⟨_,rfl⟩⟩,rfl,⟨by decide,rfl,rfl,⟨_,rfl⟩,⟨_,rfl⟩,⟨_,rfl⟩⟩,trivial⟩,?_⟩;refine bp ab rfl rfl ?_;exact⟨aB _ rfl,aB _ rfl,aB _ rfl,trivial⟩
def wL (l:List aV) (length:Int) (vv:Int):Option ((Int×Int)⊕(Int⊕Unit)):=
 (bif(decide (vv<((l.length:Nat):Int))) then(β (aC l vv) (fun e=>(β (zU e.cn) (fun cv=>(bif(cv !=0) then some (ι (κ cv)) else(bif(((e.cn.Rows.length:Nat):Int)==0) then some (ι (κ 18)) else(bif(decide (e.aT<1)) then some (ι (κ 9)) else(bif(decide ((U (20000 -length))<e.aT)) then some (ι (κ 9)) else some (κ ((U (length+e.aT)),U (vv+1))))))))))) else some (ι (ι ())))
def rI (l:List aV):Option Int:=
 (bif(((l.length:Nat):Int)==0) then some 3 else(bif(decide (24<((l.length:Nat):Int))) then some 4 else(β ((bb (fun q=>wL l q.1 q.2) (0,0)):Option (Int⊕Unit)) (Sum.elim (fun q=>some q) (fun _=>some 0)))))
theorem Da (l:List aV) (r:Int) (h:rI l=some r):Holds Tryz.prog 75 [(an cy) l] [] (I r) []:=by
 unfold rI at h;refine bm Tryz.func75 rfl Tryz.ntmps75 rfl rfl rfl (fun lim=>?_);refine aa 1 rfl (ay (aq 1 rfl ?_));refine bg cy l ab rfl rfl rfl rfl rfl rfl ?_;refine af 1 rfl ?_;refine ao (b:=((l.length:Nat):Int)==0) rfl (fun c1=>?_) (fun c1=>?_)
 ·replace h:=ai h c1;refine aa 1 rfl (Ze ?_);exact Zq h rfl rfl rfl
 ·replace h:=aj h c1;refine Zk (ay (aq 1 rfl ?_));refine bg cy l ab rfl rfl rfl rfl rfl rfl ?_;refine af 1 rfl ?_;refine ao (b:=decide (24<((l.length:Nat):Int))) rfl (fun c3=>?_) (fun c3=>?_)
  ·replace h:=ai h c3;refine aa 1 rfl (Ze ?_);exact Zq h rfl rfl rfl
  ·replace h:=aj h c3;refine Zk (aa 1 rfl ?_);obtain⟨y,iX,h⟩:=ah h;refine bJ (X:=Unit) [] [] (fun _=>[]) (fun _=>[]) (fun w=>ι w=y) rfl rfl ?_ ?_
   ·skip;refine aq 1 rfl ?_;refine bg cy l ab rfl rfl rfl rfl rfl rfl ?_;refine af 1 rfl (a6 ?_);refine bY (X:=Int×Int) (Y:=Int⊕Unit) [13,14] [] (fun q=>[(3,I q.1),(15,I q.2)]) (fun q=>[]) (fun q=>wL l q.1 q.2) (0,0) [] iX ⟨rfl,rfl,rfl,rfl,rfl,⟨ag _ rfl,ag _ rfl,trivial⟩,trivial⟩ (fun x vR vz aP dC=>?_);obtain⟨length,vv⟩:=x;change wL l length vv=_ at aP;unfold wL at aP;refine aa 1 rfl (ay ?_);refine ao (b:=decide (vv<((l.length:Nat):Int))) rfl (fun c9=>?_) (fun c9=>?_)
    ·replace aP:=ai aP c9;refine Zk (ay (a6 (ay (eQ bX ?_))));obtain⟨e,eO,aP⟩:=ah aP;refine bn cy l vv e eO ab rfl rfl rfl rfl rfl rfl rfl rfl rfl ?_;refine af 3 rfl (ay (aq 2 rfl ?_));obtain⟨cv,eG,aP⟩:=ah aP;refine aM Up (VT e.cn cv eG) rfl rfl rfl rfl rfl rfl rfl ?_;refine af 1 rfl (aa 2 rfl ?_);refine ao (b:=cv !=0) rfl (fun dn=>?_) (fun dn=>?_)
     ·replace aP:=ai aP dn;refine aa 2 rfl (Ze (aW (aF ?_)));obtain⟨t,j9,hq⟩:=aZ aP;subst hq;have hq:t=_:=dC;subst hq;refine aF (aW ?_);obtain⟨t1,gV,hq⟩:=bT j9;subst hq;have hq:=bL h;replace hq:=ar hq;subst hq;refine aF ?_;exact Zq gV rfl rfl rfl
     ·replace aP:=aj aP dn;refine Zk (ay (aq 3 rfl ?_));refine bg bC e.cn.Rows ab rfl rfl rfl rfl rfl rfl ?_;refine af 1 rfl ?_;refine ao (b:=((e.cn.Rows.length:Nat):Int)==0) rfl (fun eF=>?_) (fun eF=>?_)
      ·replace aP:=ai aP eF;refine aa 1 rfl (Ze (aW (aF ?_)));obtain⟨t2,iu,hq⟩:=aZ aP;subst hq;have hq:t2=_:=dC;subst hq;refine aF (aW ?_);obtain⟨t3,jr,hq⟩:=bT iu;subst hq;have hq:=bL h;replace hq:=ar hq;subst hq;refine aF ?_;exact Zq jr rfl rfl rfl
      ·replace aP:=aj aP eF;refine Zk (ay (aq 4 rfl ?_));refine bd rfl rfl rfl (fun g20=>?_) (fun g20=>?_)
       ·rw [g20];replace aP:=ai aP g20;refine af 6 rfl ?_;refine ao rfl (fun aL=>?_) Zx;clear aL;refine aa 1 rfl (Ze (aW (aF ?_)));obtain⟨t4,oS,hq⟩:=aZ aP;subst hq;have hq:t4=_:=dC;subst hq;refine aF (aW ?_);obtain⟨t5,m_,hq⟩:=bT oS;subst hq;have hq:=bL h;replace hq:=ar hq;subst hq;refine aF ?_;exact Zq m_ rfl rfl rfl
       ·rw [g20];replace aP:=aj aP g20;refine af 6 rfl ?_;refine ao (b:=decide ((U (20000 -length))<e.aT)) rfl (fun mS=>?_) (fun mS=>?_)
        ·replace aP:=ai aP mS;refine aa 1 rfl (Ze (aW (aF ?_)));obtain⟨t6,sI,hq⟩:=aZ aP;subst hq;have hq:t6=_:=dC;subst hq;refine aF (aW ?_);obtain⟨t7,mY,hq⟩:=bT sI;subst hq;have hq:=bL h;replace hq:=ar hq;subst hq;refine aF ?_;exact Zq mY rfl rfl rfl
        ·replace aP:=aj aP mS;refine Zk (aQ 5 rfl (aA nd (a_ (ak (aQ 2 rfl (aA nd ?_))))));have lP:=ar aP;subst lP;refine ak ⟨rfl,((U (length+e.aT)),U (vv+1)),[],⟨rfl,rfl,rfl,rfl,rfl,⟨ag _ rfl,ag _ rfl,trivial⟩,trivial⟩,dC⟩
    ·replace aP:=aj aP c9;refine bP (aY ?_);obtain⟨t8,qn,hq⟩:=aZ aP;subst hq;have hq:t8=_:=dC;subst hq;refine aY (bQ ?_);have kX:=ar qn;refine ak ⟨rfl,(),[],⟨rfl,rfl,rfl,rfl,rfl,trivial,trivial⟩,kX⟩
   ·intro w jt;subst jt;replace h:=dI h;refine aa 1 rfl (aK ?_);exact Zq h rfl rfl rfl
def rJ (l:List aV):Option (List aV):=
 (β (rI l) (fun cv=>(bif(cv !=0) then some ([]) else some l)))
theorem GU (l:List aV) (r:List aV) (h:rJ l=some r):Holds Tryz.prog 44 [(an cy) l] [] ((an cy) r) []:=by
 unfold rJ at h;refine bm Tryz.func44 rfl Tryz.ntmps44 rfl rfl rfl (fun lim=>?_);refine aa 1 rfl (ay (aq 1 rfl ?_));obtain⟨cv,bx,h⟩:=ah h;refine aM BU (Da l cv bx) rfl rfl rfl rfl rfl rfl rfl ?_;refine af 1 rfl ?_;refine ao (b:=cv !=0) rfl (fun c2=>?_) (fun c2=>?_)
 ·replace h:=ai h c2;refine aa 1 rfl (Ze ?_);cases h;refine a8 (bp ab rfl rfl ?_);exact cF
 ·replace h:=aj h c2;refine Zk (aa 2 rfl (aK ?_));exact Zq h rfl rfl rfl
def zY (vv:b7) (aR:Int) (x1:Sp):Option ((Int×Sp)⊕Sp):=
 (bif(decide (aR<((vv.Rows.length:Nat):Int))) then(β (aC vv.Rows aR) (fun e1=>(bif(!(nS e1)) then some (κ ((U (aR+1)),(⟨min x1.a e1.a,max x1.b e1.b⟩:Sp))) else some (κ ((U (aR+1)),x1))))) else some (ι x1))
def Db (s:b7):Option aJ:=
 (β (qG s) (fun vv=>(bif(((vv.Rows.length:Nat):Int)==0) then some (⟨(⟨0,0⟩:Sp),(⟨0,0⟩:Sp)⟩:aJ) else(β (aC vv.Rows 0) (fun e=>(β ((bb (fun q=>zY vv q.1 q.2) (0,e)):Option Sp) (fun x=>(cU (wE vv.b6 (U (vv.b6+((vv.Rows.length:Nat):Int)))) (fun hv=>some (⟨x,hv⟩:aJ))))))))))
theorem akE (s:b7) (r:aJ) (h:Db s=some r):Holds Tryz.prog 118 [eM s] [] (cP r) []:=by
 unfold Db at h;refine bm Tryz.func118 rfl Tryz.ntmps118 rfl rfl rfl (fun lim=>?_);refine aa 2 rfl (aq 1 rfl ?_);obtain⟨vv,bx,h⟩:=ah h;refine aM BV (C7 s vv bx) rfl rfl rfl rfl rfl rfl rfl ?_;refine af 1 rfl (ay (aq 2 rfl ?_));refine bg bC vv.Rows ab rfl rfl rfl rfl rfl rfl ?_;refine af 1 rfl ?_;refine ao (b:=((vv.Rows.length:Nat):Int)==0) rfl (fun c2=>?_) (fun c2=>?_)
 ·replace h:=ai h c2;refine aa 2 rfl (Ze ?_);exact Zq h rfl rfl rfl
 ·replace h:=aj h c2;refine Zk (aq 2 rfl ?_);obtain⟨e,dt,h⟩:=ah h;refine bn bC vv.Rows 0 e dt ab rfl rfl rfl rfl rfl rfl rfl rfl rfl ?_;refine af 3 rfl ?_;obtain⟨y,iX,h⟩:=ah h;refine bJ (X:=Sp) [1,2,3] [1,2] (fun w=>[]) (fun w=>[(3,some ⟨34,2,[.agg [I w.a,I w.b]]⟩)]) (fun w=>w=y) rfl rfl ?_ ?_
  ·skip;refine aq 2 rfl ?_;refine bg bC vv.Rows ab rfl rfl rfl rfl rfl rfl ?_;refine af 1 rfl (a6 ?_);refine bY (X:=Int×Sp) (Y:=Sp) [1,2,3,18,19] [1,2] (fun q=>[(20,I q.1)]) (fun q=>[(3,some ⟨34,2,[.agg [I q.2.a,I q.2.b]]⟩)]) (fun q=>zY vv q.1 q.2) (0,e) [(3,some 3),(1,some 1),(2,some 2)] iX ⟨rfl,rfl,rfl,rfl,rfl,⟨ag _ rfl,trivial⟩,⟨⟨_,rfl,rfl,rfl,.inl ⟨rfl,aw rfl⟩⟩,trivial⟩⟩ (fun x2 vR vz aP dC=>?_);obtain⟨aR,x1⟩:=x2;change zY vv aR x1=_ at aP;unfold zY at aP;refine aa 1 rfl (ay ?_);refine ao (b:=decide (aR<((vv.Rows.length:Nat):Int))) rfl (fun c9=>?_) (fun c9=>?_)
   ·replace aP:=ai aP c9;refine Zk (ay (a6 (ay (eQ bX ?_))));obtain⟨e1,eO,aP⟩:=ah aP;refine bn bC vv.Rows aR e1 eO ab rfl rfl rfl rfl rfl rfl rfl rfl rfl ?_;refine af 3 rfl (aq 1 rfl ?_);refine aM yK (zS e1 _ rfl) rfl rfl rfl rfl rfl rfl rfl ?_;refine af 1 rfl ?_;refine ao (b:=!(nS e1)) rfl (fun cW=>?_) (fun cW=>?_)
    ·replace aP:=ai aP cW;refine aQ 12 rfl (aA nd (a_ (ak (aQ 2 rfl (aA nd ?_)))));have ik:=ar aP;subst ik;refine ak ⟨rfl,((U (aR+1)),(⟨min x1.a e1.a,max x1.b e1.b⟩:Sp)),[(3,some 3),(1,some 1),(2,some 2)],⟨rfl,rfl,rfl,rfl,rfl,⟨ag _ rfl,trivial⟩,⟨⟨_,rfl,rfl,rfl,.inl ⟨rfl,aw rfl⟩⟩,trivial⟩⟩,dC⟩
    ·replace aP:=aj aP cW;refine b_ (a_ (ak (aQ 2 rfl (aA nd ?_))));have fw:=ar aP;subst fw;refine ak ⟨rfl,((U (aR+1)),x1),[(3,some 3),(1,some 1),(2,some 2)],⟨rfl,rfl,rfl,rfl,rfl,⟨ag _ rfl,trivial⟩,⟨⟨_,rfl,rfl,rfl,.inl ⟨rfl,aw rfl⟩⟩,trivial⟩⟩,dC⟩
   ·replace aP:=aj aP c9;refine bP (aY ?_);obtain⟨t,gV,hq⟩:=aZ aP;subst hq;have hq:t=_:=dC;subst hq;refine aY (bQ ?_);have gW:=ar gV;refine ak ⟨rfl,x1,[(3,some 3),(1,some 1),(2,some 2)],⟨rfl,rfl,rfl,rfl,rfl,trivial,⟨⟨_,rfl,rfl,rfl,.inl ⟨rfl,aw rfl⟩⟩,trivial⟩⟩,gW⟩
  ·intro x jt;subst jt;refine aq 7 rfl ?_;refine bg bC vv.Rows ab rfl rfl rfl rfl rfl rfl ?_;refine Zr 1 rfl ?_;obtain⟨hv,mj,h⟩:=dH h;refine aM JO (Lj vv.b6 (U (vv.b6+((vv.Rows.length:Nat):Int))) hv mj) rfl rfl rfl rfl rfl rfl rfl ?_;refine Zr 2 rfl ?_;refine aA (fun _=>by kernel_rfl) ?_;refine ak (aK ?_);exact Zq h rfl rfl rfl
def wM (vv:List aV) (aR:Int) (zZ:aJ):Option ((Int×aJ)⊕aJ):=
 (bif(decide (aR<((vv.length:Nat):Int))) then(β (aC vv aR) (fun e=>(β (Db e.cn) (fun bv=>(cU ((bif(aR==0) then bv else zZ):aJ) (fun sU=>some (κ ((U (aR+1)),(⟨(⟨min sU.X.a bv.X.a,max sU.X.b bv.X.b⟩:Sp),(⟨min sU.Y.a bv.Y.a,max sU.Y.b bv.Y.b⟩:Sp)⟩:aJ))))))))) else some (ι zZ))
def GV (l:List aV):Option aJ:=
 (β ((β (rJ l) (fun vv=>(bb (fun q=>wM vv q.1 q.2) (0,(⟨(⟨0,0⟩:Sp),(⟨0,0⟩:Sp)⟩:aJ))))):Option aJ) (fun bounds=>some bounds))
theorem akF (l:List aV) (r:aJ) (h:GV l=some r):Holds Tryz.prog 63 [(an cy) l] [] (cP r) []:=by
 unfold GV at h;refine bm Tryz.func63 rfl Tryz.ntmps63 rfl rfl rfl (fun lim=>?_);refine aa 1 rfl (aa 1 rfl ?_);obtain⟨y,bw,h⟩:=ah h;refine bJ (X:=aJ) [2,3] [2] (fun w=>[]) (fun w=>[(3,some ⟨36,4,[.agg [I w.X.a,I w.X.b,I w.Y.a,I w.Y.b]]⟩)]) (fun w=>w=y) rfl rfl ?_ ?_
 ·skip;refine aq 1 rfl ?_;obtain⟨vv,fx,bw⟩:=ah bw;refine aM FU (GU l vv fx) rfl rfl rfl rfl rfl rfl rfl ?_;refine bg cy vv ab rfl rfl rfl rfl rfl rfl ?_;refine af 1 rfl (a6 ?_);refine bY (X:=Int×aJ) (Y:=aJ) [2,3,8,9] [2] (fun q=>[(10,I q.1)]) (fun q=>[(3,some ⟨36,4,[.agg [I q.2.X.a,I q.2.X.b,I q.2.Y.a,I q.2.Y.b]]⟩)]) (fun q=>wM vv q.1 q.2) (0,(⟨(⟨0,0⟩:Sp),(⟨0,0⟩:Sp)⟩:aJ)) [(3,some 3),(2,some 2)] bw ⟨rfl,rfl,rfl,rfl,rfl,⟨ag _ rfl,trivial⟩,⟨⟨_,rfl,rfl,rfl,.inl ⟨rfl,aw rfl⟩⟩,trivial⟩⟩ (fun x vR vz bV jB=>?_);obtain⟨aR,zZ⟩:=x;change wM vv aR zZ=_ at bV;unfold wM at bV;refine aa 1 rfl (ay ?_);refine ao (b:=decide (aR<((vv.length:Nat):Int))) rfl (fun c6=>?_) (fun c6=>?_)
  ·replace bV:=ai bV c6;refine Zk (ay (a6 (aq 1 rfl ?_)));obtain⟨e,eU,bV⟩:=ah bV;refine bn cy vv aR e eU ab rfl rfl rfl rfl rfl rfl rfl rfl rfl ?_;refine af 4 rfl (aq 2 rfl ?_);obtain⟨bv,eX,bV⟩:=ah bV;refine aM agE (akE e.cn bv eX) rfl rfl rfl rfl rfl rfl rfl ?_;refine af 2 rfl ?_;obtain⟨y1,jM,bV⟩:=dH bV;refine bJ (X:=aJ) [2,3,6,8,9,10] [2,6] (fun w1=>[]) (fun w1=>[(3,some ⟨36,4,[.agg [I w1.X.a,I w1.X.b,I w1.Y.a,I w1.Y.b]]⟩)]) (fun w1=>w1=y1) rfl rfl ?_ ?_
   ·skip;refine aa 2 rfl ?_;refine ao (b:=aR==0) rfl (fun cW=>?_) (fun cW=>?_)
    ·replace jM:=ai jM cW;refine aQ 2 rfl (aA nd ?_);have ik:=jM;refine ak ⟨rfl,bv,[(3,some 3),(2,some 2),(6,some 6)],⟨rfl,rfl,rfl,rfl,rfl,trivial,⟨⟨_,rfl,rfl,rfl,.inl ⟨rfl,aw rfl⟩⟩,trivial⟩⟩,ik⟩
    ·replace jM:=aj jM cW;refine b_ ?_;have fw:=jM;refine ak ⟨rfl,zZ,[(3,some 3),(2,some 2),(6,some 6)],⟨rfl,rfl,rfl,rfl,rfl,trivial,⟨⟨_,rfl,rfl,rfl,.inl ⟨rfl,aw rfl⟩⟩,trivial⟩⟩,fw⟩
   ·intro sU wm;subst wm;refine aa 17 rfl (aQ 17 rfl (aA nd (a_ (ak (aQ 2 rfl (aA nd ?_))))));have ju:=ar bV;subst ju;refine ak ⟨rfl,((U (aR+1)),(⟨(⟨min sU.X.a bv.X.a,max sU.X.b bv.X.b⟩:Sp),(⟨min sU.Y.a bv.Y.a,max sU.Y.b bv.Y.b⟩:Sp)⟩:aJ)),[(3,some 3),(2,some 2)],⟨rfl,rfl,rfl,rfl,rfl,⟨ag _ rfl,trivial⟩,⟨⟨_,rfl,rfl,rfl,.inl ⟨rfl,aw rfl⟩⟩,trivial⟩⟩,jB⟩
  ·replace bV:=aj bV c6;refine bP (aY ?_);obtain⟨t,lL,hq⟩:=aZ bV;subst hq;have hq:t=_:=jB;subst hq;refine aY (bQ ?_);have iY:=ar lL;refine ak ⟨rfl,zZ,[(3,some 3),(2,some 2)],⟨rfl,rfl,rfl,rfl,rfl,trivial,⟨⟨_,rfl,rfl,rfl,.inl ⟨rfl,aw rfl⟩⟩,trivial⟩⟩,iY⟩
 ·intro bounds dx;subst dx;refine aa 2 rfl (aK ?_);exact Zq h rfl rfl rfl
def oZ (l:List aV):Option aJ:=
 (β (GV l) (fun bv=>some bv))
theorem Dc (l:List aV) (r:aJ) (h:oZ l=some r):Holds Tryz.prog 23 [(an cy) l] [] (cP r) []:=by
 unfold oZ at h;refine bm Tryz.func23 rfl Tryz.ntmps23 rfl rfl rfl (fun lim=>?_);refine aa 1 rfl (aq 1 rfl ?_);obtain⟨bv,bx,h⟩:=ah h;refine aM agb (akF l bv bx) rfl rfl rfl rfl rfl rfl rfl ?_;refine af 1 rfl (aK ?_);exact Zq h rfl rfl rfl
def qI (c:Int):Bool:=
 (bif(decide (97≤c)) then(decide (c≤122)) else false)
theorem VV (c:Int) (r:Bool) (h:qI c=r):Holds Tryz.prog 101 [U8 c] [] (B r) []:=by
 unfold qI at h;refine bm Tryz.func101 rfl Tryz.ntmps101 rfl rfl rfl (fun lim=>?_);refine aa 1 rfl (aq 3 rfl ?_);refine bd rfl rfl rfl (fun g1=>?_) (fun g1=>?_)
 ·rw [g1];replace h:=ai h g1;refine af 4 rfl (aK ?_);have e2:=h;subst e2;refine a8 ?_;refine bp ab rfl rfl ?_;exact(aB _ rfl)
 ·rw [g1];replace h:=aj h g1;refine af 4 rfl (aK ?_);have e3:=h;subst e3;refine a8 ?_;refine bp ab rfl rfl ?_;exact(aB _ rfl)
def Aa (c:Int):Bool:=
 (bif(decide (48≤c)) then(decide (c≤57)) else false)
theorem akG (c:Int) (r:Bool) (h:Aa c=r):Holds Tryz.prog 102 [U8 c] [] (B r) []:=by
 unfold Aa at h;refine bm Tryz.func102 rfl Tryz.ntmps102 rfl rfl rfl (fun lim=>?_);refine aa 1 rfl (aq 3 rfl ?_);refine bd rfl rfl rfl (fun g1=>?_) (fun g1=>?_)
 ·rw [g1];replace h:=ai h g1;refine af 4 rfl (aK ?_);have e2:=h;subst e2;refine a8 ?_;refine bp ab rfl rfl ?_;exact(aB _ rfl)
 ·rw [g1];replace h:=aj h g1;refine af 4 rfl (aK ?_);have e3:=h;subst e3;refine a8 ?_;refine bp ab rfl rfl ?_;exact(aB _ rfl)
def um (s:ByteArray) (i:Int):Option (Int⊕(Bool⊕Unit)):=
 (bif(decide (i<((s.size:Nat):Int))) then(β (pA s i) (fun c1=>(bif(!(qI c1)) then(bif(!(Aa c1)) then(bif(c1 !=95) then some (ι (κ false)) else some (κ (U (i+1)))) else some (κ (U (i+1)))) else some (κ (U (i+1)))))) else some (ι (ι ())))
def wN (s:ByteArray):Option Bool:=
 (bif(decide (((s.size:Nat):Int)<1)) then some false else(bif(decide (16<((s.size:Nat):Int))) then some false else(β (pA s 0) (fun c=>(bif(!(qI c)) then some false else(β ((bb (fun q=>um s q) 1):Option (Bool⊕Unit)) (Sum.elim (fun q=>some q) (fun _=>some true))))))))
theorem akH (s:ByteArray) (r:Bool) (h:wN s=some r):Holds Tryz.prog 53 [S s] [] (B r) []:=by
 unfold wN at h;refine bm Tryz.func53 rfl Tryz.ntmps53 rfl rfl rfl (fun lim=>?_);refine aa 1 rfl (ay (aq 4 rfl ?_));refine bd rfl rfl rfl (fun g1=>?_) (fun g1=>?_)
 ·rw [g1];replace h:=ai h g1;refine af 10 rfl ?_;refine ao rfl (fun aL=>?_) Zx;clear aL;refine aa 1 rfl (Ze ?_);exact Zq h rfl rfl rfl
 ·rw [g1];replace h:=aj h g1;refine Zr 5 rfl ?_;refine bd rfl rfl rfl (fun g3=>?_) (fun g3=>?_)
  ·rw [g3];replace h:=ai h g3;refine af 5 rfl ?_;refine ao rfl (fun aL=>?_) Zx;clear aL;refine aa 1 rfl (Ze ?_);exact Zq h rfl rfl rfl
  ·rw [g3];replace h:=aj h g3;refine Zr 1 rfl ?_;obtain⟨c,eV,h⟩:=ah h;refine FK s 0 c eV ab rfl rfl rfl rfl rfl rfl rfl ?_;refine aM Uc (VV c _ rfl) rfl rfl rfl rfl rfl rfl rfl ?_;refine af 2 rfl ?_;refine ao (b:=!(qI c)) rfl (fun c6=>?_) (fun c6=>?_)
   ·replace h:=ai h c6;refine aa 1 rfl (Ze ?_);exact Zq h rfl rfl rfl
   ·replace h:=aj h c6;refine Zk ?_;obtain⟨y,cX,h⟩:=ah h;refine bJ (X:=Unit) [] [] (fun _=>[]) (fun _=>[]) (fun w=>ι w=y) rfl rfl ?_ ?_
    ·skip;refine aa 1 rfl (a6 ?_);refine bY (X:=Int) (Y:=Bool⊕Unit) [0] [] (fun q=>[(3,I q)]) (fun q=>[]) (fun q=>um s q) 1 [] cX ⟨rfl,rfl,rfl,rfl,rfl,⟨ag _ rfl,trivial⟩,trivial⟩ (fun i vR vz bD jw=>?_);change um s i=_ at bD;unfold um at bD;refine ay (aa 4 rfl ?_);refine ao (b:=decide (i<((s.size:Nat):Int))) rfl (fun dn=>?_) (fun dn=>?_)
     ·replace bD:=ai bD dn;refine Zk (ay (a6 (aq 2 rfl ?_)));obtain⟨c1,fV,bD⟩:=ah bD;refine FK s i c1 fV ab rfl rfl rfl rfl rfl rfl rfl ?_;refine af 1 rfl (aq 1 rfl ?_);refine aM Uc (VV c1 _ rfl) rfl rfl rfl rfl rfl rfl rfl ?_;refine Zr 2 rfl ?_;refine bd rfl rfl rfl (fun g14=>?_) (fun g14=>?_)
      ·rw [g14];replace bD:=ai bD g14;refine Zr 1 rfl ?_;refine aM agx (akG c1 _ rfl) rfl rfl rfl rfl rfl rfl rfl ?_;refine Zr 3 rfl ?_;refine bd rfl rfl rfl (fun g15=>?_) (fun g15=>?_)
       ·rw [g15];replace bD:=ai bD g15;refine af 3 rfl ?_;refine ao (b:=c1 !=95) rfl (fun eF=>?_) (fun eF=>?_)
        ·replace bD:=ai bD eF;refine aa 1 rfl (aK (aW (aF ?_)));obtain⟨t,iu,hq⟩:=aZ bD;subst hq;have hq:t=_:=jw;subst hq;refine aF (aW ?_);obtain⟨t1,jr,hq⟩:=bT iu;subst hq;have hq:=bL h;replace hq:=ar hq;subst hq;refine aF ?_;exact Zq jr rfl rfl rfl
        ·replace bD:=aj bD eF;refine b_ (a_ (ak (aQ 3 rfl (aA nd ?_))));have jy:=ar bD;subst jy;refine ak ⟨rfl,U (i+1),[],⟨rfl,rfl,rfl,rfl,rfl,⟨ag _ rfl,trivial⟩,trivial⟩,jw⟩
       ·rw [g15];replace bD:=aj bD g15;refine af 3 rfl ?_;refine ao rfl Zx (fun aL=>?_);clear aL;refine b_ (a_ (ak (aQ 3 rfl (aA nd ?_))));have il:=ar bD;subst il;refine ak ⟨rfl,U (i+1),[],⟨rfl,rfl,rfl,rfl,rfl,⟨ag _ rfl,trivial⟩,trivial⟩,jw⟩
      ·rw [g14];replace bD:=aj bD g14;refine af 8 rfl ?_;refine ao rfl Zx (fun aL=>?_);clear aL;refine b_ (a_ (ak (aQ 3 rfl (aA nd ?_))));have gU:=ar bD;subst gU;refine ak ⟨rfl,U (i+1),[],⟨rfl,rfl,rfl,rfl,rfl,⟨ag _ rfl,trivial⟩,trivial⟩,jw⟩
     ·replace bD:=aj bD dn;refine bP (aY ?_);obtain⟨t2,kM,hq⟩:=aZ bD;subst hq;have hq:t2=_:=jw;subst hq;refine aY (bQ ?_);have fU:=ar kM;refine ak ⟨rfl,(),[],⟨rfl,rfl,rfl,rfl,rfl,trivial,trivial⟩,fU⟩
    ·intro w mZ;subst mZ;replace h:=dI h;refine aa 1 rfl (aK ?_);exact Zq h rfl rfl rfl
def uo (l:List bh) (name:ByteArray) (vv:Int):Option (Int⊕((Int×Bool)⊕Unit)):=
 (bif(decide (vv<((l.length:Nat):Int))) then(β (aC l vv) (fun e=>(bif(kl e.Name name) then some (ι (κ (vv,true))) else some (κ (U (vv+1)))))) else some (ι (ι ())))
def uq (l:List bh) (name:ByteArray):Option (Int×Bool):=
 (β ((bb (fun q=>uo l name q) 0):Option ((Int×Bool)⊕Unit)) (Sum.elim (fun q=>some q) (fun _=>some (0,false))))
theorem akI (l:List bh) (name:ByteArray) (r:Int×Bool) (h:uq l name=some r):Holds Tryz.prog 98 [(an cL) l,S name] [] (.bR [I r.1,B r.2]) []:=by
 unfold uq at h;refine bm Tryz.func98 rfl Tryz.ntmps98 rfl rfl rfl (fun lim=>?_);refine aa 2 rfl ?_;obtain⟨y,bw,h⟩:=ah h;refine bJ (X:=Unit) [] [] (fun _=>[]) (fun _=>[]) (fun w=>ι w=y) rfl rfl ?_ ?_
 ·skip;refine aq 1 rfl ?_;refine bg cL l ab rfl rfl rfl rfl rfl rfl ?_;refine af 1 rfl (a6 ?_);refine bY (X:=Int) (Y:=(Int×Bool)⊕Unit) [1,8,9] [] (fun q=>[(10,I q)]) (fun q=>[]) (fun q=>uo l name q) 0 [] bw ⟨rfl,rfl,rfl,rfl,rfl,⟨ag _ rfl,trivial⟩,trivial⟩ (fun vv vR vz au cj=>?_);change uo l name vv=_ at au;unfold uo at au;refine aa 1 rfl (ay ?_);refine ao (b:=decide (vv<((l.length:Nat):Int))) rfl (fun c5=>?_) (fun c5=>?_)
  ·replace au:=ai au c5;refine Zk (ay (a6 (aq 1 rfl ?_)));obtain⟨e,dM,au⟩:=ah au;refine bn cL l vv e dM ab rfl rfl rfl rfl rfl rfl rfl rfl rfl ?_;refine af 4 rfl (aq 3 rfl ?_);refine aaO e.Name name rfl rfl rfl rfl rfl ?_;refine Zn ?_;refine ao (b:=kl e.Name name) rfl (fun c7=>?_) (fun c7=>?_)
   ·replace au:=ai au c7;refine aa 3 rfl (aK (aW (aF ?_)));obtain⟨t,ng,hq⟩:=aZ au;subst hq;have hq:t=_:=cj;subst hq;refine aF (aW ?_);obtain⟨t1,gR,hq⟩:=bT ng;subst hq;have hq:=bL h;replace hq:=ar hq;subst hq;refine aF ?_;cases gR;exact a8 (bp ab rfl rfl (aB _ rfl))
   ·replace au:=aj au c7;refine b_ (a_ (ak (aQ 2 rfl (aA nd ?_))));have kS:=ar au;subst kS;refine ak ⟨rfl,U (vv+1),[],⟨rfl,rfl,rfl,rfl,rfl,⟨ag _ rfl,trivial⟩,trivial⟩,cj⟩
  ·replace au:=aj au c5;refine bP (aY ?_);obtain⟨t2,iq,hq⟩:=aZ au;subst hq;have hq:t2=_:=cj;subst hq;refine aY (bQ ?_);have fw:=ar iq;refine ak ⟨rfl,(),[],⟨rfl,rfl,rfl,rfl,rfl,trivial,trivial⟩,fw⟩
 ·intro w dx;subst dx;replace h:=dI h;refine aa 2 rfl (aK ?_);cases h;exact a8 (bp ab rfl rfl (aB _ rfl))
def wO (n:Int):Bool:=
 (bif(decide (1≤n)) then(decide (n≤600)) else false)
theorem VW (n:Int) (r:Bool) (h:wO n=r):Holds Tryz.prog 103 [I n] [] (B r) []:=by
 unfold wO at h;refine bm Tryz.func103 rfl Tryz.ntmps103 rfl rfl rfl (fun lim=>?_);refine aa 1 rfl (aq 3 rfl ?_);refine bd rfl rfl rfl (fun g1=>?_) (fun g1=>?_)
 ·rw [g1];replace h:=ai h g1;refine af 4 rfl (aK ?_);have e2:=h;subst e2;refine a8 ?_;refine bp ab rfl rfl ?_;exact(aB _ rfl)
 ·rw [g1];replace h:=aj h g1;refine af 4 rfl (aK ?_);have e3:=h;subst e3;refine a8 ?_;refine bp ab rfl rfl ?_;exact(aB _ rfl)
def ur (sV:Int) (allow:Int):Int:=
 (U (Int.tdiv (U ((U (sV*(U (1000+allow))))+999)) 1000))
theorem VX (sV:Int) (allow:Int) (r:Int) (h:ur sV allow=r):Holds Tryz.prog 104 [I sV,I allow] [] (I r) []:=by
 unfold ur at h;refine bm Tryz.func104 rfl Tryz.ntmps104 rfl rfl rfl (fun lim=>?_);refine aa 1 rfl (aa 7 rfl (aK ?_));have e1:=h;subst e1;refine a8 ?_;refine bp ab rfl rfl ?_;exact(aB _ rfl)
def nT (p:bh):(Int×Int):=
 (bif(!(wO p.fh)) then(0,0) else(bif(!(wO p.gg)) then(0,0) else(bif(decide (p.fK<0)) then(0,0) else(bif(decide (200<p.fK)) then(0,0) else((ur p.fh p.fK),ur p.gg p.fK)))))
theorem Dd (p:bh) (r:Int×Int) (h:nT p=r):Holds Tryz.prog 54 [cL p] [] (.bR [I r.1,I r.2]) []:=by
 unfold nT at h;refine bm Tryz.func54 rfl Tryz.ntmps54 rfl rfl rfl (fun lim=>?_);refine aa 3 rfl (ay (aq 2 rfl ?_));refine aM Ud (VW p.fh _ rfl) rfl rfl rfl rfl rfl rfl rfl ?_;refine Zr 2 rfl ?_;refine bd rfl rfl rfl (fun g1=>?_) (fun g1=>?_)
 ·rw [g1];replace h:=ai h g1;refine af 15 rfl ?_;refine ao rfl (fun aL=>?_) Zx;clear aL;refine aa 2 rfl (Ze ?_);have e2:=h;subst e2;refine a8 ?_;refine bp ab rfl rfl ?_;exact aB _ rfl
 ·rw [g1];replace h:=aj h g1;refine Zr 2 rfl ?_;refine aM Ud (VW p.gg _ rfl) rfl rfl rfl rfl rfl rfl rfl ?_;refine Zr 3 rfl ?_;refine bd rfl rfl rfl (fun g3=>?_) (fun g3=>?_)
  ·rw [g3];replace h:=ai h g3;refine af 9 rfl ?_;refine ao rfl (fun aL=>?_) Zx;clear aL;refine aa 2 rfl (Ze ?_);have e4:=h;subst e4;refine a8 ?_;refine bp ab rfl rfl ?_;exact aB _ rfl
  ·rw [g3];replace h:=aj h g3;refine Zr 5 rfl ?_;refine bd rfl rfl rfl (fun g5=>?_) (fun g5=>?_)
   ·rw [g5];replace h:=ai h g5;refine af 4 rfl ?_;refine ao rfl (fun aL=>?_) Zx;clear aL;refine aa 2 rfl (Ze ?_);have e6:=h;subst e6;refine a8 ?_;refine bp ab rfl rfl ?_;exact aB _ rfl
   ·rw [g5];replace h:=aj h g5;refine af 4 rfl ?_;refine ao (b:=decide (200<p.fK)) rfl (fun c7=>?_) (fun c7=>?_)
    ·replace h:=ai h c7;refine aa 2 rfl (Ze ?_);have e8:=h;subst e8;refine a8 ?_;refine bp ab rfl rfl ?_;exact aB _ rfl
    ·replace h:=aj h c7;refine Zk (aq 4 rfl ?_);refine aM Ue (VX p.fh p.fK _ rfl) rfl rfl rfl rfl rfl rfl rfl ?_;refine Zr 4 rfl ?_;refine aM Ue (VX p.gg p.fK _ rfl) rfl rfl rfl rfl rfl rfl rfl ?_;refine Zr 2 rfl ?_;refine aA (fun _=>by kernel_rfl) ?_;refine ak (aK ?_);have e9:=h;subst e9;refine a8 ?_;refine bp ab rfl rfl ?_;exact aB _ rfl
def wP (p:bh) (vv:Int):Option (Int⊕(Int⊕Unit)):=
 (bif(decide (vv<((p.bG.length:Nat):Int))) then(β (aC p.bG vv) (fun e=>(bif(decide (e<100)) then some (ι (κ 9)) else(bif(decide (20000<e)) then some (ι (κ 9)) else(bif(decide (0<vv)) then(β (aC p.bG (U (vv -1))) (fun e1=>(bif(decide (e≤e1)) then some (ι (κ 11)) else some (κ (U (vv+1)))))) else some (κ (U (vv+1)))))))) else some (ι (ι ())))
def wQ (p:bh) (aR:Int):Option (Int⊕(Int⊕Unit)):=
 (bif(decide (aR<((p.dB.length:Nat):Int))) then(β (aC p.dB aR) (fun e2=>(bif(decide (e2<0)) then some (ι (κ 9)) else(bif(decide (1000000<e2)) then some (ι (κ 9)) else some (κ (U (aR+1))))))) else some (ι (ι ())))
def sW (p:bh):Option Int:=
 (bif(decide (p.fh<5)) then some 9 else(bif(decide (300<p.fh)) then some 9 else(bif(decide (p.gg<p.fh)) then some 9 else(bif(decide (600<p.gg)) then some 9 else(bif(decide (p.fK<0)) then some 9 else(bif(decide (200<p.fK)) then some 9 else(bif(decide (p.gP<0)) then some 9 else(bif(decide (1000<p.gP)) then some 9 else(cU (nT p) (fun gv=>(bif(decide (600<gv.2)) then some 9 else(bif(((p.bG.length:Nat):Int)==0) then some 3 else(bif(decide (8<((p.bG.length:Nat):Int))) then some 4 else(bif(((p.dB.length:Nat):Int)!=((p.bG.length:Nat):Int)) then some 19 else(β ((bb (fun q=>wP p q) 0):Option (Int⊕Unit)) (Sum.elim (fun q=>some q) (fun _=>(β ((bb (fun q=>wQ p q) 0):Option (Int⊕Unit)) (Sum.elim (fun q=>some q) (fun _=>some 0))))))))))))))))))))
theorem akJ (p:bh) (r:Int) (h:sW p=some r):Holds Tryz.prog 99 [cL p] [] (I r) []:=by
 unfold sW at h;refine bm Tryz.func99 rfl Tryz.ntmps99 rfl rfl rfl (fun lim=>?_);refine aa 2 rfl (ay (aq 4 rfl ?_));refine bd rfl rfl rfl (fun g1=>?_) (fun g1=>?_)
 ·rw [g1];replace h:=ai h g1;refine af 16 rfl ?_;refine ao rfl (fun aL=>?_) Zx;clear aL;refine aa 1 rfl (Ze ?_);exact Zq h rfl rfl rfl
 ·rw [g1];replace h:=aj h g1;refine Zr 5 rfl ?_;refine bd rfl rfl rfl (fun g3=>?_) (fun g3=>?_)
  ·rw [g3];replace h:=ai h g3;refine af 11 rfl ?_;refine ao rfl (fun aL=>?_) Zx;clear aL;refine aa 1 rfl (Ze ?_);exact Zq h rfl rfl rfl
  ·rw [g3];replace h:=aj h g3;refine Zr 7 rfl ?_;refine bd rfl rfl rfl (fun g5=>?_) (fun g5=>?_)
   ·rw [g5];replace h:=ai h g5;refine af 4 rfl ?_;refine ao rfl (fun aL=>?_) Zx;clear aL;refine aa 1 rfl (Ze ?_);exact Zq h rfl rfl rfl
   ·rw [g5];replace h:=aj h g5;refine af 4 rfl ?_;refine ao (b:=decide (600<p.gg)) rfl (fun c7=>?_) (fun c7=>?_)
    ·replace h:=ai h c7;refine aa 1 rfl (Ze ?_);exact Zq h rfl rfl rfl
    ·replace h:=aj h c7;refine Zk (ay (aq 4 rfl ?_));refine bd rfl rfl rfl (fun g9=>?_) (fun g9=>?_)
     ·rw [g9];replace h:=ai h g9;refine af 14 rfl ?_;refine ao rfl (fun aL=>?_) Zx;clear aL;refine aa 1 rfl (Ze ?_);exact Zq h rfl rfl rfl
     ·rw [g9];replace h:=aj h g9;refine Zr 5 rfl ?_;refine bd rfl rfl rfl (fun g11=>?_) (fun g11=>?_)
      ·rw [g11];replace h:=ai h g11;refine af 9 rfl ?_;refine ao rfl (fun aL=>?_) Zx;clear aL;refine aa 1 rfl (Ze ?_);exact Zq h rfl rfl rfl
      ·rw [g11];replace h:=aj h g11;refine Zr 5 rfl ?_;refine bd rfl rfl rfl (fun g13=>?_) (fun g13=>?_)
       ·rw [g13];replace h:=ai h g13;refine af 4 rfl ?_;refine ao rfl (fun aL=>?_) Zx;clear aL;refine aa 1 rfl (Ze ?_);exact Zq h rfl rfl rfl
       ·rw [g13];replace h:=aj h g13;refine af 4 rfl ?_;refine ao (b:=decide (1000<p.gP)) rfl (fun gD=>?_) (fun gD=>?_)
        ·replace h:=ai h gD;refine aa 1 rfl (Ze ?_);exact Zq h rfl rfl rfl
        ·replace h:=aj h gD;refine Zk (ay (aq 1 rfl ?_));obtain⟨gv,gT,h⟩:=dH h;refine aM BT (Dd p gv gT) rfl rfl rfl rfl rfl rfl rfl ?_;refine af 5 rfl (aa 2 rfl ?_);refine ao (b:=decide (600<gv.2)) rfl (fun jo=>?_) (fun jo=>?_)
         ·replace h:=ai h jo;refine aa 1 rfl (Ze ?_);exact Zq h rfl rfl rfl
         ·replace h:=aj h jo;refine Zk (ay (aq 2 rfl ?_));refine bg I p.bG ab rfl rfl rfl rfl rfl rfl ?_;refine af 1 rfl ?_;refine ao (b:=((p.bG.length:Nat):Int)==0) rfl (fun kR=>?_) (fun kR=>?_)
          ·replace h:=ai h kR;refine aa 1 rfl (Ze ?_);exact Zq h rfl rfl rfl
          ·replace h:=aj h kR;refine Zk (ay (aq 2 rfl ?_));refine bg I p.bG ab rfl rfl rfl rfl rfl rfl ?_;refine af 1 rfl ?_;refine ao (b:=decide (8<((p.bG.length:Nat):Int))) rfl (fun kQ=>?_) (fun kQ=>?_)
           ·replace h:=ai h kQ;refine aa 1 rfl (Ze ?_);exact Zq h rfl rfl rfl
           ·replace h:=aj h kQ;refine Zk (ay (aq 2 rfl ?_));refine bg I p.dB ab rfl rfl rfl rfl rfl rfl ?_;refine Zr 2 rfl ?_;refine bg I p.bG ab rfl rfl rfl rfl rfl rfl ?_;refine af 1 rfl ?_;refine ao (b:=((p.dB.length:Nat):Int)!=((p.bG.length:Nat):Int)) rfl (fun mS=>?_) (fun mS=>?_)
            ·replace h:=ai h mS;refine aa 1 rfl (Ze ?_);exact Zq h rfl rfl rfl
            ·replace h:=aj h mS;refine Zk ?_;obtain⟨y,akK,h⟩:=ah h;refine bJ (X:=Unit) [1] [1] (fun _=>[]) (fun _=>[]) (fun w=>ι w=y) rfl rfl ?_ ?_
             ·skip;refine aq 2 rfl ?_;refine bg I p.bG ab rfl rfl rfl rfl rfl rfl ?_;refine af 1 rfl (a6 ?_);refine bY (X:=Int) (Y:=Int⊕Unit) [1,70,71] [1] (fun q=>[(72,I q)]) (fun q=>[]) (fun q=>wP p q) 0 [(1,some 1)] akK ⟨rfl,rfl,rfl,rfl,rfl,⟨ag _ rfl,trivial⟩,trivial⟩ (fun vv vR vz gm Ac=>?_);change wP p vv=_ at gm;unfold wP at gm;refine aa 1 rfl (ay ?_);refine ao (b:=decide (vv<((p.bG.length:Nat):Int))) rfl (fun wR=>?_) (fun wR=>?_)
              ·replace gm:=ai gm wR;refine Zk (ay (a6 (aq 1 rfl ?_)));obtain⟨e,qo,gm⟩:=ah gm;refine bn I p.bG vv e qo ab rfl rfl rfl rfl rfl rfl rfl rfl rfl ?_;refine af 3 rfl (ay (aq 3 rfl ?_));refine bd rfl rfl rfl (fun De=>?_) (fun De=>?_)
               ·rw [De];replace gm:=ai gm De;refine af 3 rfl ?_;refine ao rfl (fun aL=>?_) Zx;clear aL;refine aa 1 rfl (Ze (aW (aF ?_)));obtain⟨t,qf,hq⟩:=aZ gm;subst hq;have hq:t=_:=Ac;subst hq;refine aF (aW ?_);obtain⟨t1,Cu,hq⟩:=bT qf;subst hq;have hq:=bL h;replace hq:=ar hq;subst hq;refine aF ?_;exact Zq Cu rfl rfl rfl
               ·rw [De];replace gm:=aj gm De;refine af 3 rfl ?_;refine ao (b:=decide (20000<e)) rfl (fun qt=>?_) (fun qt=>?_)
                ·replace gm:=ai gm qt;refine aa 1 rfl (Ze (aW (aF ?_)));obtain⟨t2,qh,hq⟩:=aZ gm;subst hq;have hq:t2=_:=Ac;subst hq;refine aF (aW ?_);obtain⟨t3,mU,hq⟩:=bT qh;subst hq;have hq:=bL h;replace hq:=ar hq;subst hq;refine aF ?_;exact Zq mU rfl rfl rfl
                ·replace gm:=aj gm qt;refine Zk (aq 3 rfl ?_);refine bd rfl rfl rfl (fun Dg=>?_) (fun Dg=>?_)
                 ·rw [Dg];replace gm:=ai gm Dg;refine Zr 5 rfl ?_;obtain⟨e1,uu,gm⟩:=ah gm;refine bn I p.bG (U (vv -1)) e1 uu ab rfl rfl rfl rfl rfl rfl rfl rfl rfl ?_;refine af 3 rfl ?_;refine ao (b:=decide (e≤e1)) rfl (fun Lr=>?_) (fun Lr=>?_)
                  ·replace gm:=ai gm Lr;refine aa 1 rfl (aK (aW (aF ?_)));obtain⟨t4,oQ,hq⟩:=aZ gm;subst hq;have hq:t4=_:=Ac;subst hq;refine aF (aW ?_);obtain⟨t5,wc,hq⟩:=bT oQ;subst hq;have hq:=bL h;replace hq:=ar hq;subst hq;refine aF ?_;exact Zq wc rfl rfl rfl
                  ·replace gm:=aj gm Lr;refine b_ (a_ (ak (aQ 2 rfl (aA nd ?_))));have Dh:=ar gm;subst Dh;refine ak ⟨rfl,U (vv+1),[(1,some 1)],⟨rfl,rfl,rfl,rfl,rfl,⟨ag _ rfl,trivial⟩,trivial⟩,Ac⟩
                 ·rw [Dg];replace gm:=aj gm Dg;refine af 9 rfl ?_;refine ao rfl Zx (fun aL=>?_);clear aL;refine b_ (a_ (ak (aQ 2 rfl (aA nd ?_))));have qj:=ar gm;subst qj;refine ak ⟨rfl,U (vv+1),[(1,some 1)],⟨rfl,rfl,rfl,rfl,rfl,⟨ag _ rfl,trivial⟩,trivial⟩,Ac⟩
              ·replace gm:=aj gm wR;refine bP (aY ?_);obtain⟨t6,K6,hq⟩:=aZ gm;subst hq;have hq:t6=_:=Ac;subst hq;refine aY (bQ ?_);have e49:=ar K6;refine ak ⟨rfl,(),[(1,some 1)],⟨rfl,rfl,rfl,rfl,rfl,trivial,trivial⟩,e49⟩
             ·intro w akM;subst akM;replace h:=dI h;obtain⟨y1,akN,h⟩:=ah h;refine bJ (X:=Unit) [] [] (fun _=>[]) (fun _=>[]) (fun w1=>ι w1=y1) rfl rfl ?_ ?_
              ·skip;refine aq 2 rfl ?_;refine bg I p.dB ab rfl rfl rfl rfl rfl rfl ?_;refine af 1 rfl (a6 ?_);refine bY (X:=Int) (Y:=Int⊕Unit) [97,98] [] (fun q=>[(99,I q)]) (fun q=>[]) (fun q=>wQ p q) 0 [] akN ⟨rfl,rfl,rfl,rfl,rfl,⟨ag _ rfl,trivial⟩,trivial⟩ (fun aR jY gS ky GW=>?_);change wQ p aR=_ at ky;unfold wQ at ky;refine aa 1 rfl (ay ?_);refine ao (b:=decide (aR<((p.dB.length:Nat):Int))) rfl (fun wS=>?_) (fun wS=>?_)
               ·replace ky:=ai ky wS;refine Zk (ay (a6 (ay (eQ bX ?_))));obtain⟨e2,Ls,ky⟩:=ah ky;refine bn I p.dB aR e2 Ls ab rfl rfl rfl rfl rfl rfl rfl rfl rfl ?_;refine af 2 rfl (aq 3 rfl ?_);refine bd rfl rfl rfl (fun Di=>?_) (fun Di=>?_)
                ·rw [Di];replace ky:=ai ky Di;refine af 3 rfl ?_;refine ao rfl (fun aL=>?_) Zx;clear aL;refine aa 1 rfl (aK (aW (aF ?_)));obtain⟨t7,CD,hq⟩:=aZ ky;subst hq;have hq:t7=_:=GW;subst hq;refine aF (aW ?_);obtain⟨t8,akO,hq⟩:=bT CD;subst hq;have hq:=bL h;replace hq:=ar hq;subst hq;refine aF ?_;exact Zq akO rfl rfl rfl
                ·rw [Di];replace ky:=aj ky Di;refine af 3 rfl ?_;refine ao (b:=decide (1000000<e2)) rfl (fun wx=>?_) (fun wx=>?_)
                 ·replace ky:=ai ky wx;refine aa 1 rfl (aK (aW (aF ?_)));obtain⟨t9,Lt,hq⟩:=aZ ky;subst hq;have hq:t9=_:=GW;subst hq;refine aF (aW ?_);obtain⟨t10,Lu,hq⟩:=bT Lt;subst hq;have hq:=bL h;replace hq:=ar hq;subst hq;refine aF ?_;exact Zq Lu rfl rfl rfl
                 ·replace ky:=aj ky wx;refine b_ (a_ (ak (aQ 2 rfl (aA nd ?_))));have e64:=ar ky;subst e64;refine ak ⟨rfl,U (aR+1),[],⟨rfl,rfl,rfl,rfl,rfl,⟨ag _ rfl,trivial⟩,trivial⟩,GW⟩
               ·replace ky:=aj ky wS;refine bP (aY ?_);obtain⟨t11,akQ,hq⟩:=aZ ky;subst hq;have hq:t11=_:=GW;subst hq;refine aY (bQ ?_);have e66:=ar akQ;refine ak ⟨rfl,(),[],⟨rfl,rfl,rfl,rfl,rfl,trivial,trivial⟩,e66⟩
              ·intro w1 akS;subst akS;replace h:=dI h;refine aa 1 rfl (aK ?_);exact Zq h rfl rfl rfl
def nj (l:List bh) (vv:Int):Option (Int⊕(Int⊕Unit)):=
 (bif(decide (vv<((l.length:Nat):Int))) then(β (aC l vv) (fun e=>(β (wN e.Name) (fun iv=>(bif(!iv) then some (ι (κ 6)) else(β (qa l 0 vv) (fun l1=>(β (uq l1 e.Name) (fun fv=>(bif fv.2 then some (ι (κ 7)) else(β (sW e) (fun cv=>(bif(cv !=0) then some (ι (κ cv)) else some (κ (U (vv+1)))))))))))))))) else some (ι (ι ())))
def nk (l:List bh):Option Int:=
 (bif(decide (16<((l.length:Nat):Int))) then some 4 else(β ((bb (fun q=>nj l q) 0):Option (Int⊕Unit)) (Sum.elim (fun q=>some q) (fun _=>some 0))))
theorem Ad (l:List bh) (r:Int) (h:nk l=some r):Holds Tryz.prog 51 [(an cL) l] [] (I r) []:=by
 unfold nk at h;refine bm Tryz.func51 rfl Tryz.ntmps51 rfl rfl rfl (fun lim=>?_);refine aa 1 rfl (ay (aq 1 rfl ?_));refine bg cL l ab rfl rfl rfl rfl rfl rfl ?_;refine af 1 rfl ?_;refine ao (b:=decide (16<((l.length:Nat):Int))) rfl (fun c1=>?_) (fun c1=>?_)
 ·replace h:=ai h c1;refine aa 1 rfl (Ze ?_);exact Zq h rfl rfl rfl
 ·replace h:=aj h c1;refine Zk ?_;obtain⟨y,sL,h⟩:=ah h;refine bJ (X:=Unit) [] [] (fun _=>[]) (fun _=>[]) (fun w=>ι w=y) rfl rfl ?_ ?_
  ·skip;refine aq 1 rfl ?_;refine bg cL l ab rfl rfl rfl rfl rfl rfl ?_;refine af 1 rfl (a6 ?_);refine bY (X:=Int) (Y:=Int⊕Unit) [0,11,12] [] (fun q=>[(13,I q)]) (fun q=>[]) (fun q=>nj l q) 0 [] sL ⟨rfl,rfl,rfl,rfl,rfl,⟨ag _ rfl,trivial⟩,trivial⟩ (fun vv vR vz bc fC=>?_);change nj l vv=_ at bc;unfold nj at bc;refine aa 1 rfl (ay ?_);refine ao (b:=decide (vv<((l.length:Nat):Int))) rfl (fun c7=>?_) (fun c7=>?_)
   ·replace bc:=ai bc c7;refine Zk (ay (a6 (aq 1 rfl ?_)));obtain⟨e,eX,bc⟩:=ah bc;refine bn cL l vv e eX ab rfl rfl rfl rfl rfl rfl rfl rfl rfl ?_;refine af 4 rfl (ay (aq 2 rfl ?_));obtain⟨iv,eN,bc⟩:=ah bc;refine aM af9 (akH e.Name iv eN) rfl rfl rfl rfl rfl rfl rfl ?_;refine af 1 rfl ?_;refine ao (b:=!iv) rfl (fun db=>?_) (fun db=>?_)
    ·replace bc:=ai bc db;refine aa 1 rfl (Ze (aW (aF ?_)));obtain⟨t,kK,hq⟩:=aZ bc;subst hq;have hq:t=_:=fC;subst hq;refine aF (aW ?_);obtain⟨t1,iq,hq⟩:=bT kK;subst hq;have hq:=bL h;replace hq:=ar hq;subst hq;refine aF ?_;exact Zq iq rfl rfl rfl
    ·replace bc:=aj bc db;refine Zk (ay (aq 2 rfl ?_));obtain⟨l1,eW,bc⟩:=ah bc;refine OL cL l l1 0 vv eW (fun _=>rfl) ab rfl rfl rfl rfl rfl rfl rfl ⟨_,rfl⟩ rfl ?_;refine Zr 2 rfl ?_;obtain⟨fv,gX,bc⟩:=ah bc;refine aM agv (akI l1 e.Name fv gX) rfl rfl rfl rfl rfl rfl rfl ?_;refine Zr 5 rfl ?_;refine aA (fun _=>by kernel_rfl) ?_;refine ak (aa 1 rfl ?_);refine ao (b:=fv.2) rfl (fun eF=>?_) (fun eF=>?_)
     ·replace bc:=ai bc eF;refine aa 1 rfl (Ze (aW (aF ?_)));obtain⟨t2,iu,hq⟩:=aZ bc;subst hq;have hq:t2=_:=fC;subst hq;refine aF (aW ?_);obtain⟨t3,jr,hq⟩:=bT iu;subst hq;have hq:=bL h;replace hq:=ar hq;subst hq;refine aF ?_;exact Zq jr rfl rfl rfl
     ·replace bc:=aj bc eF;refine Zk (aq 1 rfl ?_);obtain⟨cv,kZ,bc⟩:=ah bc;refine aM agw (akJ e cv kZ) rfl rfl rfl rfl rfl rfl rfl ?_;refine af 1 rfl (aa 2 rfl ?_);refine ao (b:=cv !=0) rfl (fun fJ=>?_) (fun fJ=>?_)
      ·replace bc:=ai bc fJ;refine aa 2 rfl (aK (aW (aF ?_)));obtain⟨t4,m_,hq⟩:=aZ bc;subst hq;have hq:t4=_:=fC;subst hq;refine aF (aW ?_);obtain⟨t5,kM,hq⟩:=bT m_;subst hq;have hq:=bL h;replace hq:=ar hq;subst hq;refine aF ?_;exact Zq kM rfl rfl rfl
      ·replace bc:=aj bc fJ;refine b_ (a_ (ak (aQ 2 rfl (aA nd ?_))));have kU:=ar bc;subst kU;refine ak ⟨rfl,U (vv+1),[],⟨rfl,rfl,rfl,rfl,rfl,⟨ag _ rfl,trivial⟩,trivial⟩,fC⟩
   ·replace bc:=aj bc c7;refine bP (aY ?_);obtain⟨t6,mY,hq⟩:=aZ bc;subst hq;have hq:t6=_:=fC;subst hq;refine aY (bQ ?_);have im:=ar mY;refine ak ⟨rfl,(),[],⟨rfl,rfl,rfl,rfl,rfl,trivial,trivial⟩,im⟩
  ·intro w sM;subst sM;replace h:=dI h;refine aa 1 rfl (aK ?_);exact Zq h rfl rfl rfl
def Ae (n:Int):Bool:=
 (bif(decide (1≤n)) then(decide (n≤20000)) else false)
theorem VY (n:Int) (r:Bool) (h:Ae n=r):Holds Tryz.prog 134 [I n] [] (B r) []:=by
 unfold Ae at h;refine bm Tryz.func134 rfl Tryz.ntmps134 rfl rfl rfl (fun lim=>?_);refine aa 1 rfl (aq 3 rfl ?_);refine bd rfl rfl rfl (fun g1=>?_) (fun g1=>?_)
 ·rw [g1];replace h:=ai h g1;refine af 4 rfl (aK ?_);have e2:=h;subst e2;refine a8 ?_;refine bp ab rfl rfl ?_;exact(aB _ rfl)
 ·rw [g1];replace h:=aj h g1;refine af 4 rfl (aK ?_);have e3:=h;subst e3;refine a8 ?_;refine bp ab rfl rfl ?_;exact(aB _ rfl)
def wT (n:Int):Bool:=
 (bif(decide (0≤n)) then(decide (n≤1000000)) else false)
theorem VZ (n:Int) (r:Bool) (h:wT n=r):Holds Tryz.prog 135 [I n] [] (B r) []:=by
 unfold wT at h;refine bm Tryz.func135 rfl Tryz.ntmps135 rfl rfl rfl (fun lim=>?_);refine aa 1 rfl (aq 3 rfl ?_);refine bd rfl rfl rfl (fun g1=>?_) (fun g1=>?_)
 ·rw [g1];replace h:=ai h g1;refine af 4 rfl (aK ?_);have e2:=h;subst e2;refine a8 ?_;refine bp ab rfl rfl ?_;exact(aB _ rfl)
 ·rw [g1];replace h:=aj h g1;refine af 4 rfl (aK ?_);have e3:=h;subst e3;refine a8 ?_;refine bp ab rfl rfl ?_;exact(aB _ rfl)
def lV (s:cS) (vr:da):Int:=
 (bif(decide (s.bj<0)) then 9 else(bif(decide (20<s.bj)) then 9 else(bif(decide (s.Trim<0)) then 9 else(bif(decide (20<s.Trim)) then 9 else(bif(decide (s.dq<1)) then 9 else(bif(decide (2000<s.dq)) then 9 else(bif(!(Ae s.Step)) then 9 else(bif(decide (vr.dF<0)) then 9 else(bif(decide (1000<vr.dF)) then 9 else(bif(decide (vr.cO<0)) then 9 else(bif(decide (1000<vr.cO)) then 9 else(bif(!(wT vr.dE)) then 9 else 0))))))))))))
theorem Lv (s:cS) (vr:da) (r:Int) (h:lV s vr=r):Holds Tryz.prog 76 [oJ s,pB vr] [] (I r) []:=by
 unfold lV at h;refine bm Tryz.func76 rfl Tryz.ntmps76 rfl rfl rfl (fun lim=>?_);refine aa 3 rfl (ay (aq 4 rfl ?_));refine bd rfl rfl rfl (fun g1=>?_) (fun g1=>?_)
 ·rw [g1];replace h:=ai h g1;refine af 14 rfl ?_;refine ao rfl (fun aL=>?_) Zx;clear aL;refine aa 1 rfl (Ze ?_);have e2:=h;subst e2;refine a8 ?_;refine bp ab rfl rfl ?_;exact(aB _ rfl)
 ·rw [g1];replace h:=aj h g1;refine Zr 5 rfl ?_;refine bd rfl rfl rfl (fun g3=>?_) (fun g3=>?_)
  ·rw [g3];replace h:=ai h g3;refine af 9 rfl ?_;refine ao rfl (fun aL=>?_) Zx;clear aL;refine aa 1 rfl (Ze ?_);have e4:=h;subst e4;refine a8 ?_;refine bp ab rfl rfl ?_;exact(aB _ rfl)
  ·rw [g3];replace h:=aj h g3;refine Zr 5 rfl ?_;refine bd rfl rfl rfl (fun g5=>?_) (fun g5=>?_)
   ·rw [g5];replace h:=ai h g5;refine af 4 rfl ?_;refine ao rfl (fun aL=>?_) Zx;clear aL;refine aa 1 rfl (Ze ?_);have e6:=h;subst e6;refine a8 ?_;refine bp ab rfl rfl ?_;exact(aB _ rfl)
   ·rw [g5];replace h:=aj h g5;refine af 4 rfl ?_;refine ao (b:=decide (20<s.Trim)) rfl (fun c7=>?_) (fun c7=>?_)
    ·replace h:=ai h c7;refine aa 1 rfl (Ze ?_);have e8:=h;subst e8;refine a8 ?_;refine bp ab rfl rfl ?_;exact(aB _ rfl)
    ·replace h:=aj h c7;refine Zk (ay (aq 4 rfl ?_));refine bd rfl rfl rfl (fun g9=>?_) (fun g9=>?_)
     ·rw [g9];replace h:=ai h g9;refine af 10 rfl ?_;refine ao rfl (fun aL=>?_) Zx;clear aL;refine aa 1 rfl (Ze ?_);have gB:=h;subst gB;refine a8 ?_;refine bp ab rfl rfl ?_;exact(aB _ rfl)
     ·rw [g9];replace h:=aj h g9;refine Zr 5 rfl ?_;refine bd rfl rfl rfl (fun g11=>?_) (fun g11=>?_)
      ·rw [g11];replace h:=ai h g11;refine af 5 rfl ?_;refine ao rfl (fun aL=>?_) Zx;clear aL;refine aa 1 rfl (Ze ?_);have ik:=h;subst ik;refine a8 ?_;refine bp ab rfl rfl ?_;exact(aB _ rfl)
      ·rw [g11];replace h:=aj h g11;refine Zr 2 rfl ?_;refine aM Uq (VY s.Step _ rfl) rfl rfl rfl rfl rfl rfl rfl ?_;refine af 2 rfl ?_;refine ao (b:=!(Ae s.Step)) rfl (fun fa=>?_) (fun fa=>?_)
       ·replace h:=ai h fa;refine aa 1 rfl (Ze ?_);have ju:=h;subst ju;refine a8 ?_;refine bp ab rfl rfl ?_;exact(aB _ rfl)
       ·replace h:=aj h fa;refine Zk (ay (aq 4 rfl ?_));refine bd rfl rfl rfl (fun g15=>?_) (fun g15=>?_)
        ·rw [g15];replace h:=ai h g15;refine af 20 rfl ?_;refine ao rfl (fun aL=>?_) Zx;clear aL;refine aa 1 rfl (Ze ?_);have iY:=h;subst iY;refine a8 ?_;refine bp ab rfl rfl ?_;exact(aB _ rfl)
        ·rw [g15];replace h:=aj h g15;refine Zr 5 rfl ?_;refine bd rfl rfl rfl (fun g17=>?_) (fun g17=>?_)
         ·rw [g17];replace h:=ai h g17;refine af 15 rfl ?_;refine ao rfl (fun aL=>?_) Zx;clear aL;refine aa 1 rfl (Ze ?_);have gY:=h;subst gY;refine a8 ?_;refine bp ab rfl rfl ?_;exact(aB _ rfl)
         ·rw [g17];replace h:=aj h g17;refine Zr 5 rfl ?_;refine bd rfl rfl rfl (fun g19=>?_) (fun g19=>?_)
          ·rw [g19];replace h:=ai h g19;refine af 10 rfl ?_;refine ao rfl (fun aL=>?_) Zx;clear aL;refine aa 1 rfl (Ze ?_);have jy:=h;subst jy;refine a8 ?_;refine bp ab rfl rfl ?_;exact(aB _ rfl)
          ·rw [g19];replace h:=aj h g19;refine Zr 5 rfl ?_;refine bd rfl rfl rfl (fun g21=>?_) (fun g21=>?_)
           ·rw [g21];replace h:=ai h g21;refine af 5 rfl ?_;refine ao rfl (fun aL=>?_) Zx;clear aL;refine aa 1 rfl (Ze ?_);have gU:=h;subst gU;refine a8 ?_;refine bp ab rfl rfl ?_;exact(aB _ rfl)
           ·rw [g21];replace h:=aj h g21;refine Zr 2 rfl ?_;refine aM Ur (VZ vr.dE _ rfl) rfl rfl rfl rfl rfl rfl rfl ?_;refine af 2 rfl ?_;refine ao (b:=!(wT vr.dE)) rfl (fun gE=>?_) (fun gE=>?_)
            ·replace h:=ai h gE;refine aa 1 rfl (Ze ?_);have fU:=h;subst fU;refine a8 ?_;refine bp ab rfl rfl ?_;exact(aB _ rfl)
            ·replace h:=aj h gE;refine Zk (aa 1 rfl (aK ?_));have kU:=h;subst kU;refine a8 ?_;refine bp ab rfl rfl ?_;exact(aB _ rfl)
def Dj (vr:aJ) (vv:Int):Option (Int⊕(Int⊕Unit)):=
 (bif(decide (vv<4)) then(β (aC [vr.X.a,vr.X.b,vr.Y.a,vr.Y.b] vv) (fun e=>(bif(decide (e<(-600))) then some (ι (κ 9)) else(bif(decide (600<e)) then some (ι (κ 9)) else some (κ (U (vv+1))))))) else some (ι (ι ())))
def GX (vr:aJ):Option Int:=
 (bif(decide (vr.X.b≤vr.X.a)) then some 19 else(bif(decide (vr.Y.b≤vr.Y.a)) then some 19 else(β ((bb (fun q=>Dj vr q) 0):Option (Int⊕Unit)) (Sum.elim (fun q=>some q) (fun _=>some 0)))))
theorem akT (vr:aJ) (r:Int) (h:GX vr=some r):Holds Tryz.prog 147 [cP vr] [] (I r) []:=by
 unfold GX at h;refine bm Tryz.func147 rfl Tryz.ntmps147 rfl rfl rfl (fun lim=>?_);refine aa 2 rfl (ay (aq 8 rfl ?_));refine bd rfl rfl rfl (fun g1=>?_) (fun g1=>?_)
 ·rw [g1];replace h:=ai h g1;refine af 8 rfl ?_;refine ao rfl (fun aL=>?_) Zx;clear aL;refine aa 1 rfl (Ze ?_);exact Zq h rfl rfl rfl
 ·rw [g1];replace h:=aj h g1;refine af 8 rfl ?_;refine ao (b:=decide (vr.Y.b≤vr.Y.a)) rfl (fun c3=>?_) (fun c3=>?_)
  ·replace h:=ai h c3;refine aa 1 rfl (Ze ?_);exact Zq h rfl rfl rfl
  ·replace h:=aj h c3;refine Zk ?_;obtain⟨y,iX,h⟩:=ah h;refine bJ (X:=Unit) [] [] (fun _=>[]) (fun _=>[]) (fun w=>ι w=y) rfl rfl ?_ ?_
   ·skip;refine aa 14 rfl (a6 ?_);refine bY (X:=Int) (Y:=Int⊕Unit) [33] [] (fun q=>[(34,I q)]) (fun q=>[]) (fun q=>Dj vr q) 0 [] iX ⟨rfl,rfl,rfl,rfl,rfl,⟨ag _ rfl,trivial⟩,trivial⟩ (fun vv vR vz aP dC=>?_);change Dj vr vv=_ at aP;unfold Dj at aP;refine aa 1 rfl (ay ?_);refine ao (b:=decide (vv<4)) rfl (fun c9=>?_) (fun c9=>?_)
    ·replace aP:=ai aP c9;refine Zk (ay (a6 (ay (eQ bX ?_))));obtain⟨e,eO,aP⟩:=ah aP;refine BN I [vr.X.a,vr.X.b,vr.Y.a,vr.Y.b] vv e eO rfl (by intro j el hj;match j,hj with|0,hj=>(cases hj;rfl)|1,hj=>(cases hj;rfl)|2,hj=>(cases hj;rfl)|3,hj=>(cases hj;rfl)|(_+4),hj=>(exact absurd hj (by simp))) ab rfl rfl rfl rfl rfl rfl rfl rfl ?_
     refine af 1 rfl (aq 3 rfl ?_);refine bd rfl rfl rfl (fun g11=>?_) (fun g11=>?_)
     ·rw [g11];replace aP:=ai aP g11;refine af 3 rfl ?_;refine ao rfl (fun aL=>?_) Zx;clear aL;refine aa 1 rfl (aK (aW (aF ?_)));obtain⟨t,iq,hq⟩:=aZ aP;subst hq;have hq:t=_:=dC;subst hq;refine aF (aW ?_);obtain⟨t1,j9,hq⟩:=bT iq;subst hq;have hq:=bL h;replace hq:=ar hq;subst hq;refine aF ?_;exact Zq j9 rfl rfl rfl
     ·rw [g11];replace aP:=aj aP g11;refine af 3 rfl ?_;refine ao (b:=decide (600<e)) rfl (fun gD=>?_) (fun gD=>?_)
      ·replace aP:=ai aP gD;refine aa 1 rfl (aK (aW (aF ?_)));obtain⟨t2,lM,hq⟩:=aZ aP;subst hq;have hq:t2=_:=dC;subst hq;refine aF (aW ?_);obtain⟨t3,iu,hq⟩:=bT lM;subst hq;have hq:=bL h;replace hq:=ar hq;subst hq;refine aF ?_;exact Zq iu rfl rfl rfl
      ·replace aP:=aj aP gD;refine b_ (a_ (ak (aQ 2 rfl (aA nd ?_))));have kL:=ar aP;subst kL;refine ak ⟨rfl,U (vv+1),[],⟨rfl,rfl,rfl,rfl,rfl,⟨ag _ rfl,trivial⟩,trivial⟩,dC⟩
    ·replace aP:=aj aP c9;refine bP (aY ?_);obtain⟨t4,iW,hq⟩:=aZ aP;subst hq;have hq:t4=_:=dC;subst hq;refine aY (bQ ?_);have il:=ar iW;refine ak ⟨rfl,(),[],⟨rfl,rfl,rfl,rfl,rfl,trivial,trivial⟩,il⟩
   ·intro w jt;subst jt;replace h:=dI h;refine aa 1 rfl (aK ?_);exact Zq h rfl rfl rfl
def Af (l:List aV) (d:List Df) (c:List bh) (frame:aJ) (s:cS) (vr:da):Option Int:=
 (β (rI l) (fun cv=>(bif(cv !=0) then some cv else(β (j_ d) (fun bU=>(bif(bU !=0) then some bU else(β (nk c) (fun iK=>(bif(iK !=0) then some iK else(bif((lV s vr)!=0) then some (lV s vr) else(β (GX frame) (fun wU=>some wU))))))))))))
theorem akU (l:List aV) (d:List Df) (c:List bh) (frame:aJ) (s:cS) (vr:da) (r:Int) (h:Af l d c frame s vr=some r):Holds Tryz.prog 107 [(an cy) l,(an cq) d,(an cL) c,cP frame,oJ s,pB vr] [] (I r) []:=by
 unfold Af at h;refine bm Tryz.func107 rfl Tryz.ntmps107 rfl rfl rfl (fun lim=>?_);refine aa 4 rfl (ay (aq 1 rfl ?_));obtain⟨cv,bx,h⟩:=ah h;refine aM BU (Da l cv bx) rfl rfl rfl rfl rfl rfl rfl ?_;refine af 1 rfl (aa 2 rfl ?_);refine ao (b:=cv !=0) rfl (fun c2=>?_) (fun c2=>?_)
 ·replace h:=ai h c2;refine aa 2 rfl (Ze ?_);exact Zq h rfl rfl rfl
 ·replace h:=aj h c2;refine Zk (ay (aq 1 rfl ?_));obtain⟨bU,dt,h⟩:=ah h;refine aM yI (zg d bU dt) rfl rfl rfl rfl rfl rfl rfl ?_;refine af 1 rfl (aa 2 rfl ?_);refine ao (b:=bU !=0) rfl (fun c5=>?_) (fun c5=>?_)
  ·replace h:=ai h c5;refine aa 2 rfl (Ze ?_);exact Zq h rfl rfl rfl
  ·replace h:=aj h c5;refine Zk (ay (aq 1 rfl ?_));obtain⟨iK,eU,h⟩:=ah h;refine aM yH (Ad c iK eU) rfl rfl rfl rfl rfl rfl rfl ?_;refine af 1 rfl (aa 2 rfl ?_);refine ao (b:=iK !=0) rfl (fun c8=>?_) (fun c8=>?_)
   ·replace h:=ai h c8;refine aa 2 rfl (Ze ?_);exact Zq h rfl rfl rfl
   ·replace h:=aj h c8;refine Zk (ay (aq 2 rfl ?_));refine aM JL (Lv s vr _ rfl) rfl rfl rfl rfl rfl rfl rfl ?_;refine af 1 rfl (aa 2 rfl ?_);refine ao (b:=(lV s vr)!=0) rfl (fun db=>?_) (fun db=>?_)
    ·replace h:=ai h db;refine aa 2 rfl (Ze ?_);exact Zq h rfl rfl rfl
    ·replace h:=aj h db;refine Zk (aq 1 rfl ?_);obtain⟨wU,dZ,h⟩:=ah h;refine aM agP (akT frame wU dZ) rfl rfl rfl rfl rfl rfl rfl ?_;refine af 1 rfl (aK ?_);exact Zq h rfl rfl rfl
def Dk (x:Int) (y:Int):Bool:=
 (bif(qD x) then(bif(!(qD y)) then true else(decide (x<y))) else(decide (x<y)))
theorem akV (x:Int) (y:Int) (r:Bool) (h:Dk x y=r):Holds Tryz.prog 219 [I x,I y] [] (B r) []:=by
 unfold Dk at h;refine bm Tryz.func219 rfl Tryz.ntmps219 rfl rfl rfl (fun lim=>?_);refine aa 1 rfl (aq 1 rfl ?_);refine aM F3 (GK x _ rfl) rfl rfl rfl rfl rfl rfl rfl ?_;refine Zr 1 rfl ?_;refine bd rfl rfl rfl (fun g1=>?_) (fun g1=>?_)
 ·rw [g1];replace h:=ai h g1;refine Zr 1 rfl ?_;refine aM F3 (GK y _ rfl) rfl rfl rfl rfl rfl rfl rfl ?_;refine Zr 3 rfl ?_;refine bd rfl rfl rfl (fun g2=>?_) (fun g2=>?_)
  ·rw [g2];replace h:=ai h g2;refine af 5 rfl (aK ?_);have e3:=h;subst e3;refine a8 ?_;refine bp ab rfl rfl ?_;exact(aB _ rfl)
  ·rw [g2];replace h:=aj h g2;refine af 5 rfl (aK ?_);have e4:=h;subst e4;refine a8 ?_;refine bp ab rfl rfl ?_;exact(aB _ rfl)
 ·rw [g1];replace h:=aj h g1;refine af 10 rfl (aK ?_);have e5:=h;subst e5;refine a8 ?_;refine bp ab rfl rfl ?_;exact(aB _ rfl)
def Ag (a:Int) (j:Int) (g_:List Int):Option ((Int×(List Int))⊕(List Int)):=
 (bif(decide (a<j)) then(β (aC g_ j) (fun e=>(β (aC g_ (U (j -1))) (fun e1=>(bif(Dk e e1) then(β (aC g_ (U (j -1))) (fun e2=>(β (aC g_ j) (fun e3=>(β (aC g_ j) (fun e4=>(β (aC (aU g_ j e2) (U (j -1))) (fun e5=>some (κ ((U (j -1)),aU (aU g_ j e2) (U (j -1)) e3)))))))))) else some (ι g_)))))) else some (ι g_))
def wV (a:Int) (b:Int) (i:Int) (wW:List Int):Option ((Int×(List Int))⊕(List Int)):=
 (bif(decide (i<b)) then(β ((bb (fun q=>Ag a q.1 q.2) (i,wW)):Option (List Int)) (fun GY=>some (κ ((U (i+1)),GY)))) else some (ι wW))
def Dl (data:List Int) (a:Int) (b:Int):Option (List Int):=
 (bb (fun q=>wV a b q.1 q.2) ((U (a+1)),data))
theorem akW (data:List Int) (a:Int) (b:Int) (r:List Int) (h:Dl data a b=some r):Holds Tryz.prog 213 [.arr 1300 0 data.length,I a,I b] [(1300,some ⟨3,1,data.map I⟩)] (.bR []) [(1300,some ⟨3,1,r.map I⟩)]:=by
 unfold Dl at h;refine bm Tryz.func213 rfl Tryz.ntmps213 rfl rfl rfl (fun lim=>?_);refine aa 3 rfl (a6 ?_);refine bY (X:=Int×(List Int)) (Y:=List Int) [1,2] [] (fun q=>[(6,I q.1),(0,.arr 1300 0 q.2.length)]) (fun q=>[(1300,some ⟨3,1,q.2.map I⟩)]) (fun q=>wV a b q.1 q.2) ((U (a+1)),data) [(1300,some 1300)] h ⟨rfl,rfl,rfl,rfl,rfl,⟨ag _ rfl,⟨rfl,rfl,rfl⟩,trivial⟩,⟨⟨_,rfl,rfl,rfl,aD (enc:=I) data (fun _=>rfl)⟩,trivial⟩⟩ (fun x vR vz dU hU=>?_);obtain⟨i,wW⟩:=x;change wV a b i wW=_ at dU;unfold wV at dU;refine ay (aa 3 rfl ?_);refine ao (b:=decide (i<b)) rfl (fun c3=>?_) (fun c3=>?_)
 ·replace dU:=ai dU c3;refine Zk ?_;obtain⟨y,sG,dU⟩:=ah dU;refine bJ (X:=List Int) [1,2,6] [] (fun w=>[(0,.arr 1300 0 w.length)]) (fun w=>[(1300,some ⟨3,1,w.map I⟩)]) (fun w=>w=y) rfl rfl ?_ ?_
  ·skip;refine a6 (aa 2 rfl (a6 ?_));refine bY (X:=Int×(List Int)) (Y:=List Int) [1,2,6] [] (fun q=>[(7,I q.1),(0,.arr 1300 0 q.2.length)]) (fun q=>[(1300,some ⟨3,1,q.2.map I⟩)]) (fun q=>Ag a q.1 q.2) (i,wW) [(1300,some 1300)] sG ⟨rfl,rfl,rfl,rfl,rfl,⟨ag _ rfl,⟨rfl,rfl,rfl⟩,trivial⟩,⟨⟨_,rfl,rfl,rfl,aD (enc:=I) wW (fun _=>rfl)⟩,trivial⟩⟩ (fun x1 jY gS cp lN=>?_);obtain⟨j,g_⟩:=x1;change Ag a j g_=_ at cp;unfold Ag at cp;refine ay (aq 4 rfl ?_);refine bd rfl rfl rfl (fun g8=>?_) (fun g8=>?_)
   ·rw [g8];replace cp:=ai cp g8;refine Zr 2 rfl ?_;obtain⟨e,eN,cp⟩:=ah cp;refine ew I g_ j e eN rfl ab rfl rfl rfl rfl rfl rfl rfl rfl rfl rfl ?_;refine gO I g_ j e _ eN ab rfl rfl rfl rfl rfl rfl rfl ?_;refine Zr 3 rfl ?_;obtain⟨e1,eO,cp⟩:=ah cp;refine ew I g_ (U (j -1)) e1 eO rfl ab rfl rfl rfl rfl rfl rfl rfl rfl rfl rfl ?_;refine gO I g_ (U (j -1)) e1 _ eO ab rfl rfl rfl rfl rfl rfl rfl ?_;refine aM ahs (akV e e1 _ rfl) rfl rfl rfl rfl rfl rfl rfl ?_;refine Zr 1 rfl ?_;refine aA (fun _=>by kernel_rfl) ?_;refine ak ?_;refine ao (b:=Dk e e1) rfl (fun cW=>?_) (fun cW=>?_)
    ·replace cp:=ai cp cW;refine Zk (ay (a6 (aQ 8 rfl ?_)));obtain⟨e2,dZ,cp⟩:=ah cp;refine ew I g_ (U (j -1)) e2 dZ rfl ab rfl rfl rfl rfl rfl rfl rfl rfl rfl rfl ?_;refine gO I g_ (U (j -1)) e2 _ dZ ab rfl rfl rfl rfl rfl rfl rfl ?_;refine Zr 2 rfl ?_;obtain⟨e3,fV,cp⟩:=ah cp;refine ew I g_ j e3 fV rfl ab rfl rfl rfl rfl rfl rfl rfl rfl rfl rfl ?_;refine gO I g_ j e3 _ fV ab rfl rfl rfl rfl rfl rfl rfl ?_;obtain⟨e4,eW,cp⟩:=ah cp;refine ew I g_ j e4 eW rfl ab rfl rfl rfl rfl rfl rfl rfl rfl rfl rfl ?_;refine jU I g_ j e4 e2 eW ab rfl rfl rfl rfl rfl rfl rfl rfl rfl rfl rfl rfl ?_;obtain⟨e5,gX,cp⟩:=ah cp;refine ew I (aU g_ j e2) (U (j -1)) e5 gX (by simp[aU]) ab rfl rfl rfl rfl rfl rfl rfl rfl rfl rfl ?_;refine jU I (aU g_ j e2) (U (j -1)) e5 e3 gX ab rfl rfl rfl rfl rfl rfl rfl rfl rfl rfl rfl rfl ?_;refine aA (fun _=>by kernel_rfl) ?_;refine a_ (ak (aQ 3 rfl (aA nd ?_)));have iY:=ar cp;subst iY;refine ak ⟨rfl,((U (j -1)),aU (aU g_ j e2) (U (j -1)) e3),[(1300,some 1300)],⟨rfl,rfl,rfl,rfl,rfl,⟨ag _ rfl,⟨rfl,rfl,by simp[aU]⟩,trivial⟩,⟨⟨_,rfl,rfl,rfl,aD (enc:=I) (aU (aU g_ j e2) (U (j -1)) e3) (fun _=>rfl)⟩,trivial⟩⟩,lN⟩
    ·replace cp:=aj cp cW;refine bP (aY ?_);obtain⟨t,iu,hq⟩:=aZ cp;subst hq;have hq:t=_:=lN;subst hq;refine aY (bQ (a_ ?_));have gY:=ar iu;refine ak ⟨rfl,g_,[(1300,some 1300)],⟨rfl,rfl,rfl,rfl,rfl,⟨⟨rfl,rfl,rfl⟩,trivial⟩,⟨⟨_,rfl,rfl,rfl,aD (enc:=I) g_ (fun _=>rfl)⟩,trivial⟩⟩,gY⟩
   ·rw [g8];replace cp:=aj cp g8;refine Zr 11 rfl ?_;refine aA (fun _=>by kernel_rfl) ?_;refine ak ?_;refine ao rfl Zx (fun aL=>?_);clear aL;refine bP (aY ?_);obtain⟨t1,jZ,hq⟩:=aZ cp;subst hq;have hq:t1=_:=lN;subst hq;refine aY (bQ (a_ ?_));have jy:=ar jZ;refine ak ⟨rfl,g_,[(1300,some 1300)],⟨rfl,rfl,rfl,rfl,rfl,⟨⟨rfl,rfl,rfl⟩,trivial⟩,⟨⟨_,rfl,rfl,rfl,aD (enc:=I) g_ (fun _=>rfl)⟩,trivial⟩⟩,jy⟩
  ·intro GY sH;subst sH;refine aQ 3 rfl (aA nd ?_);have il:=ar dU;subst il;refine ak ⟨rfl,((U (i+1)),GY),[(1300,some 1300)],⟨rfl,rfl,rfl,rfl,rfl,⟨ag _ rfl,⟨rfl,rfl,rfl⟩,trivial⟩,⟨⟨_,rfl,rfl,rfl,aD (enc:=I) GY (fun _=>rfl)⟩,trivial⟩⟩,hU⟩
 ·replace dU:=aj dU c3;refine bP (aY ?_);obtain⟨t2,m_,hq⟩:=aZ dU;subst hq;have hq:t2=_:=hU;subst hq;refine aY (bQ ?_);cases m_;refine od ?_;exact gu [(1300,some 1300)] ab rfl rfl rfl rfl (aB _ rfl) ⟨⟨_,rfl,rfl,rfl,aD (enc:=I) wW (fun _=>rfl)⟩,trivial⟩
def Dm (data:List Int) (a1:Int) (b1:Int) (GZ:Int) (G0:Bool) (V1:Bool):Option ((Int×Int×Int×Bool×Bool)⊕(List Int)):=
 (bif(decide ((U (b1 -a1))≤12)) then(β (Dl data a1 b1) (fun iv=>(bif(Nat.beq iv.length data.length) then some (ι iv) else none))) else(bif(GZ==0) then none else(bif(!G0) then none else none)))
def G1 (data:List Int) (a:Int) (b:Int) (cZ:Int):Option (List Int):=
 (bb (fun q=>Dm data q.1 q.2.1 q.2.2.1 q.2.2.2.1 q.2.2.2.2) (a,b,cZ,true,true))
theorem akX (data:List Int) (a:Int) (b:Int) (cZ:Int) (r:List Int) (h:G1 data a b cZ=some r):Holds Tryz.prog 197 [.arr 1300 0 data.length,I a,I b,I cZ] [(1300,some ⟨3,1,data.map I⟩)] (.bR []) [(1300,some ⟨3,1,r.map I⟩)]:=by
 unfold G1 at h;refine bm Tryz.func197 rfl Tryz.ntmps197 rfl rfl rfl (fun lim=>?_);refine aa 1 rfl (aa 1 rfl (a6 ?_));refine bY (X:=Int×Int×Int×Bool×Bool) (Y:=List Int) [] [] (fun q=>[(1,I q.1),(2,I q.2.1),(3,I q.2.2.1),(8,B q.2.2.2.1),(9,B q.2.2.2.2),(0,.arr 1300 0 data.length)]) (fun q=>[(1300,some ⟨3,1,data.map I⟩)]) (fun q=>Dm data q.1 q.2.1 q.2.2.1 q.2.2.2.1 q.2.2.2.2) (a,b,cZ,true,true) [(1300,some 1300)] h ⟨rfl,rfl,rfl,rfl,rfl,⟨ag _ rfl,ag _ rfl,ag _ rfl,ag _ rfl,ag _ rfl,⟨rfl,rfl,rfl⟩,trivial⟩,⟨⟨_,rfl,rfl,rfl,aD (enc:=I) data (fun _=>rfl)⟩,trivial⟩⟩ (fun x vR vz dU hU=>?_);obtain⟨a1,b1,GZ,G0,V1⟩:=x;change Dm data a1 b1 GZ G0 V1=_ at dU;unfold Dm at dU;refine a6 (aa 4 rfl (ay (aa 2 rfl ?_)));refine ao (b:=decide ((U (b1 -a1))≤12)) rfl (fun c3=>?_) (fun c3=>?_)
 ·replace dU:=ai dU c3;refine aq 3 rfl ?_;obtain⟨iv,dt,dU⟩:=ah dU;obtain⟨g5,dU⟩:=gw dU;have hl6:iv.length=data.length:=Nat.eq_of_beq_eq_true g5;refine iE (.bR []) [] [(1300,some ⟨3,1,iv.map I⟩)] [(1300,some 1300)] [(1300,some 1300)] ahr (akW data a1 b1 iv dt) rfl rfl rfl rfl rfl trivial ⟨⟨rfl,rfl,rfl⟩,aB _ rfl,aB _ rfl,trivial⟩ rfl rfl ⟨⟨_,rfl,rfl,rfl,aD (enc:=I) data (fun _=>rfl)⟩,trivial⟩ rfl rfl ⟨⟨_,rfl,rfl,rfl,aD (enc:=I) iv (fun _=>rfl)⟩,trivial⟩ (aB _ rfl) rfl (fun h=>absurd rfl h) rfl rfl rfl ?_;refine Zn (Ze (aW ?_));obtain⟨t,Lw,hq⟩:=aZ dU;subst hq;have hq:t=_:=hU;subst hq;refine aF (aW ?_);cases Lw;refine a8 ?_;exact gu [(1300,some 1300)] ab rfl rfl rfl rfl (aB _ rfl) ⟨⟨_,rfl,rfl,rfl,aD (enc:=I) iv (fun _=>rfl)⟩,trivial⟩
 ·replace dU:=aj dU c3;refine Zk (ay (aa 2 rfl ?_));refine ao (b:=GZ==0) rfl (fun c9=>?_) (fun c9=>?_)
  ·replace dU:=ai dU c9;refine aq 3 rfl ?_;cases dU
  ·replace dU:=aj dU c9;refine Zk (ay (aa 2 rfl ?_));refine ao (b:=!G0) rfl (fun db=>?_) (fun db=>?_)
   ·replace dU:=ai dU db;refine aq 3 rfl ?_;cases dU
   ·replace dU:=aj dU db;refine Zk (aq 3 rfl ?_);cases dU
end Go.Proofs.YtccnpbnokndeeaaGreatDoor
end
