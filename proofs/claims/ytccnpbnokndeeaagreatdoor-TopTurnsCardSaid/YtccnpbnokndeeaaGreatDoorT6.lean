/- Texts for the law: A1c. -/
import Derived.Test.YtccnpbnokndeeaaGreatDoorT5
noncomputable section
open Option renaming bind→β
open Sum renaming inr→ι,inl→κ
namespace Go.Proofs.YtccnpbnokndeeaaGreatDoor
open Go Go.Ab
set_option maxRecDepth 20000
set_option maxHeartbeats 1000000
def CR (p:List aS):Option Int:=
 (bif(decide (((p.length:Nat):Int)<3)) then some 3 else(bif(decide (32<((p.length:Nat):Int))) then some 4 else(β (wD p) (fun iv=>(bif(!iv) then some 9 else(β (GG p) (fun av=>(bif(av==0) then some 19 else some 0))))))))
theorem aka (p:List aS) (r:Int) (h:CR p=some r):Holds Tryz.prog 168 [(an a7) p] [] (I r) []:=by
 unfold CR at h;refine bm Tryz.func168 rfl Tryz.ntmps168 rfl rfl rfl (fun lim=>?_);refine aa 1 rfl (ay (a6 (aq 1 rfl ?_)));refine bg a7 p ab rfl rfl rfl rfl rfl rfl ?_;refine af 2 rfl ?_;refine ao (b:=decide (((p.length:Nat):Int)<3)) rfl (fun c1=>?_) (fun c1=>?_)
 ·replace h:=ai h c1;refine aa 1 rfl (aK (aW (aF ?_)));exact Zq h rfl rfl rfl
 ·replace h:=aj h c1;refine aq 1 rfl ?_;refine bg a7 p ab rfl rfl rfl rfl rfl rfl ?_;refine af 2 rfl ?_;refine ao (b:=decide (32<((p.length:Nat):Int))) rfl (fun c3=>?_) (fun c3=>?_)
  ·replace h:=ai h c3;refine aa 1 rfl (aK (aW (aF ?_)));exact Zq h rfl rfl rfl
  ·replace h:=aj h c3;refine aq 1 rfl ?_;obtain⟨iv,eV,h⟩:=ah h;refine aM JV (Li p iv eV) rfl rfl rfl rfl rfl rfl rfl ?_;refine af 2 rfl ?_;refine ao (b:=!iv) rfl (fun c6=>?_) (fun c6=>?_)
   ·replace h:=ai h c6;refine aa 1 rfl (aK (aW (aF ?_)));exact Zq h rfl rfl rfl
   ·replace h:=aj h c6;refine aq 1 rfl ?_;obtain⟨av,eX,h⟩:=ah h;refine aM ahd (aj_ p av eX) rfl rfl rfl rfl rfl rfl rfl ?_;refine af 2 rfl ?_;refine ao (b:=av==0) rfl (fun c9=>?_) (fun c9=>?_)
    ·replace h:=ai h c9;refine aa 1 rfl (aK (aW (aF ?_)));exact Zq h rfl rfl rfl
    ·replace h:=aj h c9;refine b_ (a_ (ak (aa 1 rfl (aK ?_))));exact Zq h rfl rfl rfl
def wE (GH:Int) (GI:Int):Sp:=
 (⟨U (10*GH),U (10*GI)⟩:Sp)
theorem Lj (GH:Int) (GI:Int) (r:Sp) (h:wE GH GI=r):Holds Tryz.prog 96 [I GH,I GI] [] (bC r) []:=by
 unfold wE at h;refine bm Tryz.func96 rfl Tryz.ntmps96 rfl rfl rfl (fun lim=>?_);refine aa 1 rfl (aa 6 rfl (aK ?_));have e1:=h;subst e1;refine a8 ?_;refine bp ab rfl rfl ?_;exact(aB _ rfl)
def GJ (s:List aS):Option (List aS):=cK 16 ([]:List aS) s
theorem akb (s:List aS) (r:List aS) (h:GJ s=some r):Holds Tryz.prog 205 [an a7 s] [] (.arr 998 0 r.length) [(998,some ⟨94,2,r.map a7⟩)]:=by
 unfold GJ at h;refine bm Tryz.func205 rfl Tryz.ntmps205 rfl rfl rfl (fun lim=>?_);refine aa 1 rfl (ay (ay ?_));refine yW rfl rfl rfl ?_;refine Zr 1 rfl (aA nd ?_);refine⟨_,_,yX rfl Tryz.underlying211 rfl rfl,fun b hb=>?_⟩;refine ak ?_;refine ao (b:=b) rfl (fun c1=>?_) (fun c1=>?_)
 ·have hs:=List.map_eq_nil_iff.1 (hb c1);subst hs;have hr:r=[]:=(Option.some.inj h).symm;subst hr;refine aa 1 rfl (Ze (a8 ?_));exact gu [(998,none)] ab rfl rfl rfl rfl ⟨rfl,rfl,rfl⟩ ⟨rfl,trivial⟩
 ·refine b_ ?_;refine ak (aq 2 rfl ?_);refine vM a7 ([]:List aS) s r h (fun _=>rfl) (fun _=>rfl) rfl ab rfl rfl rfl rfl rfl rfl rfl rfl rfl rfl rfl rfl rfl rfl rfl ?_;refine af 1 rfl (aK (a8 ?_));exact gu [(998,some 7)] ab rfl rfl rfl rfl ⟨rfl,rfl,rfl⟩ ⟨⟨_,rfl,rfl,rfl,aD (enc:=a7) r (fun _=>rfl)⟩,trivial⟩
def zG (s:List aS) (k:Int) (k2:Int) (ef:Int) (s2:List aS):Option ((Int×Int×(List aS))⊕((List aS)×Int)):=
 (bif(decide (ef<((((s.length:Nat):Int).toNat -k.toNat:Nat):Int))) then(bif(decide (0≤k)&&(decide (0≤ef)&&decide (ef<((s.length:Nat):Int) -k))) then(β (aC s2 (k+ef)) (fun e2=>(bif(decide (0≤k)&&(decide (0≤(U (ef -1)))&&decide ((U (ef -1))<((s.length:Nat):Int) -k))) then(β (aC s2 (k+(U (ef -1)))) (fun e3=>(bif(!(gx a7 e2 e3)) then(bif(decide (0≤k)&&(decide (0≤ef)&&decide (ef<((s.length:Nat):Int) -k))) then(β (aC s2 (k+ef)) (fun e4=>(β (aC s2 k2) (fun e5=>some (κ ((U (k2+1)),U (ef+1),aU s2 k2 e4)))))) else none) else some (κ (k2,U (ef+1),s2))))) else none))) else none) else some (ι (s2,k2)))
def zH (s:List aS) (k:Int):Option (Int⊕((List aS)⊕Unit)):=
 (bif(decide (k<((s.length:Nat):Int))) then(β ((β (aC s k) (fun e=>(β (aC s (U (k -1))) (fun e1=>(bif(gx a7 e e1) then(bif(decide (0≤k)&&(decide (k<((s.length:Nat):Int))&&(decide (k≤((s.length:Nat):Int))&&decide (((s.length:Nat):Int)≤((s.length:Nat):Int))))) then(β ((bb (fun q=>zG s k q.1 q.2.1 q.2.2) (k,1,s)):Option ((List aS)×Int)) (fun w3=>(bif(decide (0≤w3.2)&&(decide (w3.2<((w3.1.length:Nat):Int))&&(decide (w3.2≤((w3.1.length:Nat):Int))&&decide (((w3.1.length:Nat):Int)≤((w3.1.length:Nat):Int))))) then(bif(Nat.ble (w3.2.toNat+(((w3.1.length:Nat):Int).toNat -w3.2.toNat)) w3.1.length&&Nat.blt 0 (((w3.1.length:Nat):Int).toNat -w3.2.toNat)) then(cU (oP (⟨0,0⟩:aS) w3.1 w3.2.toNat (((w3.1.length:Nat):Int).toNat -w3.2.toNat)) (fun l=>(β (kJ l w3.2) (fun l1=>some (κ (ι (κ l1))))))) else none) else none))) else none) else some (ι ())))))):Option ((Int⊕((List aS)⊕Unit))⊕Unit)) (Sum.elim (fun q=>some q) (fun _=>some (κ (U (k+1)))))) else some (ι (ι ())))
def CS (s:List aS):Option (List aS):=
 (bif(decide (((s.length:Nat):Int)<2)) then some s else(β ((bb (fun q=>zH s q) 1):Option ((List aS)⊕Unit)) (Sum.elim (fun q=>some q) (fun _=>some s))))
theorem akc (s:List aS) (r:List aS) (h:CS s=some r):Holds Tryz.prog 210 [.arr 1300 0 s.length] [(1300,some ⟨94,2,s.map a7⟩)] (.arr 998 0 r.length) [(998,some ⟨94,2,r.map a7⟩)]:=by
 unfold CS at h;refine bm Tryz.func210 rfl Tryz.ntmps210 rfl rfl rfl (fun lim=>?_);refine aa 1 rfl (ay (aa 3 rfl ?_));refine ao (b:=decide (((s.length:Nat):Int)<2)) rfl (fun c1=>?_) (fun c1=>?_)
 ·replace h:=ai h c1;refine aa 2 rfl (Ze ?_);cases h;refine a8 ?_;exact gu [(998,some 1300)] ab rfl rfl rfl rfl ⟨rfl,rfl,(by first|rfl|(simp [aU];done)|omega|(dsimp only;omega)|(simp [aU];omega))⟩ ⟨⟨_,rfl,rfl,rfl,aD (enc:=a7) s (fun _=>rfl)⟩,trivial⟩
 ·replace h:=aj h c1;refine Zk ?_;obtain⟨y,sL,h⟩:=ah h;refine bJ (X:=Unit) [] [] (fun _=>[(0,.arr 1300 0 s.length)]) (fun _=>[(1300,some ⟨94,2,s.map a7⟩)]) (fun w=>ι w=y) rfl rfl ?_ ?_
  ·skip;refine aa 1 rfl (a6 ?_);refine bY (X:=Int) (Y:=(List aS)⊕Unit) [] [] (fun q=>[(3,I q),(0,.arr 1300 0 s.length)]) (fun q=>[(1300,some ⟨94,2,s.map a7⟩)]) (fun q=>zH s q) 1 [(1300,some 1300)] sL ⟨rfl,rfl,rfl,rfl,rfl,⟨ag _ rfl,⟨rfl,rfl,rfl⟩,trivial⟩,⟨⟨_,rfl,rfl,rfl,aD (enc:=a7) s (fun _=>rfl)⟩,trivial⟩⟩ (fun k vR vz bc fC=>?_);change zH s k=_ at bc;unfold zH at bc;refine ay (aa 4 rfl ?_);refine ao (b:=decide (k<((s.length:Nat):Int))) rfl (fun c7=>?_) (fun c7=>?_)
   ·replace bc:=ai bc c7;refine Zk ?_;obtain⟨y1,cX,bc⟩:=ah bc;refine bJ (X:=Unit) [] [] (fun _=>[(0,.arr 1300 0 s.length),(3,I k)]) (fun _=>[(1300,some ⟨94,2,s.map a7⟩)]) (fun w1=>ι w1=y1) rfl rfl ?_ ?_
    ·skip;refine a6 (aq 2 rfl ?_);obtain⟨e,eO,cX⟩:=ah cX;refine ew a7 s k e eO rfl ab rfl rfl rfl rfl rfl rfl rfl rfl rfl rfl ?_;refine gO a7 s k e _ eO ab rfl rfl rfl rfl rfl rfl rfl ?_;refine Zr 3 rfl ?_;obtain⟨e1,eG,cX⟩:=ah cX;refine ew a7 s (U (k -1)) e1 eG rfl ab rfl rfl rfl rfl rfl rfl rfl rfl rfl rfl ?_;refine gO a7 s (U (k -1)) e1 _ eG ab rfl rfl rfl rfl rfl rfl rfl ?_;refine eL rfl (FH vQ rfl K2 K3 (by decide) rfl rfl rfl rfl rfl) rfl rfl rfl ?_;refine aA (fun _=>by kernel_rfl) ?_;refine ak ?_;refine ao (b:=gx a7 e e1) rfl (fun dn=>?_) (fun dn=>?_)
     ·replace cX:=ai cX dn;refine aq 2 rfl ?_;obtain⟨Lk,cX⟩:=gw cX;refine FP k ((s.length:Nat):Int) Lk ab rfl rfl rfl rfl rfl rfl rfl rfl ⟨_,rfl⟩ rfl rfl ?_;refine af 1 rfl ?_;obtain⟨y2,ni,cX⟩:=ah cX;refine bJ (X:=(List aS)×Int) [] [] (fun w2=>[(0,.arr 1300 0 w2.1.length),(3,I w2.2)]) (fun w2=>[(1300,some ⟨94,2,w2.1.map a7⟩)]) (fun w2=>w2=y2) rfl rfl ?_ ?_
      ·skip;refine aa 1 rfl (a6 ?_);refine bY (X:=Int×Int×(List aS)) (Y:=(List aS)×Int) [4] [] (fun q=>[(3,I q.1),(5,I q.2.1),(0,.arr 1300 0 q.2.2.length)]) (fun q=>[(1300,some ⟨94,2,q.2.2.map a7⟩)]) (fun q=>zG s k q.1 q.2.1 q.2.2) (k,1,s) [(1300,some 1300)] ni ⟨rfl,rfl,rfl,rfl,rfl,⟨ag _ rfl,ag _ rfl,⟨rfl,rfl,rfl⟩,trivial⟩,⟨⟨_,rfl,rfl,rfl,aD (enc:=a7) s (fun _=>rfl)⟩,trivial⟩⟩ (fun x jY gS bI wF=>?_);obtain⟨k2,ef,s2⟩:=x;change zG s k k2 ef s2=_ at bI;unfold zG at bI;refine ay (aa 4 rfl ?_);refine ao (b:=decide (ef<((((s.length:Nat):Int).toNat -k.toNat:Nat):Int))) rfl (fun jo=>?_) (fun jo=>?_)
       ·replace bI:=ai bI jo;refine Zk (ay (a6 (aq 2 rfl ?_)));obtain⟨Ll,bI⟩:=gw bI;obtain⟨e2,kZ,bI⟩:=ah bI;refine y6 a7 s2 k ((s.length:Nat):Int) ef e2 Ll kZ ab rfl rfl rfl rfl rfl rfl rfl rfl rfl rfl ?_;refine gO a7 s2 (k+ef) e2 _ kZ ab rfl rfl rfl rfl rfl rfl rfl ?_;refine Zr 3 rfl ?_;obtain⟨Lm,bI⟩:=gw bI;obtain⟨e3,jz,bI⟩:=ah bI;refine y6 a7 s2 k ((s.length:Nat):Int) (U (ef -1)) e3 Lm jz ab rfl rfl rfl rfl rfl rfl rfl rfl rfl rfl ?_;refine gO a7 s2 (k+(U (ef -1))) e3 _ jz ab rfl rfl rfl rfl rfl rfl rfl ?_;refine eL rfl (tL vQ rfl K2 K3 (by decide) rfl rfl rfl rfl rfl) rfl rfl rfl ?_;refine aA (fun _=>by kernel_rfl) ?_;refine ak ?_;refine ao (b:=!(gx a7 e2 e3)) rfl (fun gE=>?_) (fun gE=>?_)
        ·replace bI:=ai bI gE;refine aq 4 rfl ?_;obtain⟨CI,bI⟩:=gw bI;obtain⟨e4,oX,bI⟩:=ah bI;refine y6 a7 s2 k ((s.length:Nat):Int) ef e4 CI oX ab rfl rfl rfl rfl rfl rfl rfl rfl rfl rfl ?_;refine gO a7 s2 (k+ef) e4 _ oX ab rfl rfl rfl rfl rfl rfl rfl ?_;obtain⟨e5,kr,bI⟩:=ah bI;refine ew a7 s2 k2 e5 kr rfl ab rfl rfl rfl rfl rfl rfl rfl rfl rfl rfl ?_;refine jU a7 s2 k2 e5 e4 kr ab rfl rfl rfl rfl rfl rfl rfl rfl rfl rfl rfl rfl ?_;refine Zn (aQ 3 rfl (aA nd (a_ (ak (aQ 3 rfl (aA nd ?_))))));have im:=ar bI;subst im;refine ak ⟨rfl,((U (k2+1)),U (ef+1),aU s2 k2 e4),[(1300,some 1300)],⟨rfl,rfl,rfl,rfl,rfl,⟨ag _ rfl,ag _ rfl,⟨rfl,rfl,(by first|rfl|(simp [aU];done)|omega|(dsimp only;omega)|(simp [aU];omega))⟩,trivial⟩,⟨⟨_,rfl,rfl,rfl,aD (enc:=a7) (aU s2 k2 e4) (fun _=>rfl)⟩,trivial⟩⟩,wF⟩
        ·replace bI:=aj bI gE;refine b_ (a_ (ak (aQ 3 rfl (aA nd ?_))));have lP:=ar bI;subst lP;refine ak ⟨rfl,(k2,U (ef+1),s2),[(1300,some 1300)],⟨rfl,rfl,rfl,rfl,rfl,⟨ag _ rfl,ag _ rfl,⟨rfl,rfl,(by first|rfl|(simp [aU];done)|omega|(dsimp only;omega)|(simp [aU];omega))⟩,trivial⟩,⟨⟨_,rfl,rfl,rfl,aD (enc:=a7) s2 (fun _=>rfl)⟩,trivial⟩⟩,wF⟩
       ·replace bI:=aj bI jo;refine bP (aY ?_);obtain⟨t,qn,hq⟩:=aZ bI;subst hq;have hq:t=_:=wF;subst hq;refine aY (bQ ?_);have kX:=ar qn;refine ak ⟨rfl,(s2,k2),[(1300,some 1300)],⟨rfl,rfl,rfl,rfl,rfl,⟨⟨rfl,rfl,(by first|rfl|(simp [aU];done)|omega|(dsimp only;omega)|(simp [aU];omega))⟩,ag _ rfl,trivial⟩,⟨⟨_,rfl,rfl,rfl,aD (enc:=a7) s2 (fun _=>rfl)⟩,trivial⟩⟩,kX⟩
      ·intro w2 CT;subst CT;obtain⟨s1,k1⟩:=w2;refine aq 2 rfl ?_;obtain⟨Ln,cX⟩:=gw cX;refine FP k1 ((s1.length:Nat):Int) Ln ab rfl rfl rfl rfl rfl rfl rfl rfl ⟨_,rfl⟩ rfl rfl ?_;obtain⟨CU,cX⟩:=gw cX;obtain⟨l,nc,cX⟩:=dH cX;refine Vf a7 (⟨0,0⟩:aS) s1 l nc CU ab rfl rfl rfl rfl rfl rfl rfl rfl rfl rfl rfl rfl ?_;have akd:l.length=s1.length:=Ve nc CU;refine Zn (aq 2 rfl ?_);obtain⟨l1,mi,cX⟩:=ah cX;refine rz a7 l l1 k1 mi (by first|rfl|(simp [aU];done)|omega|(dsimp only;omega)|(simp [aU];omega)) ab rfl rfl rfl rfl rfl rfl rfl rfl rfl rfl rfl ?_
       refine af 1 rfl (aK (aW ?_));obtain⟨t1,wq,hq⟩:=bT cX;subst hq;have hq:=bL bc;replace hq:=ar hq;subst hq;refine aF ?_;obtain⟨t2,qh,hq⟩:=aZ wq;subst hq;have hq:t2=_:=fC;subst hq;refine aF (aW ?_);obtain⟨t3,mU,hq⟩:=bT qh;subst hq;have hq:=bL h;replace hq:=ar hq;subst hq;refine aF ?_;cases mU;refine a8 ?_;exact gu [(998,some 1300)] ab rfl rfl rfl rfl ⟨rfl,rfl,(by first|rfl|(simp [aU];done)|omega|(dsimp only;omega)|(simp [aU];omega))⟩ ⟨⟨_,rfl,rfl,rfl,aD (enc:=a7) l1 (fun _=>rfl)⟩,trivial⟩
     ·replace cX:=aj cX dn;refine b_ (a_ ?_);have qu:=ar cX;refine ak ⟨rfl,(),[(1300,some 1300)],⟨rfl,rfl,rfl,rfl,rfl,⟨⟨rfl,rfl,(by first|rfl|(simp [aU];done)|omega|(dsimp only;omega)|(simp [aU];omega))⟩,ag _ rfl,trivial⟩,⟨⟨_,rfl,rfl,rfl,aD (enc:=a7) s (fun _=>rfl)⟩,trivial⟩⟩,qu⟩
    ·intro w1 mZ;subst mZ;replace bc:=dI bc;refine aQ 3 rfl (aA nd ?_);have qC:=ar bc;subst qC;refine ak ⟨rfl,U (k+1),[(1300,some 1300)],⟨rfl,rfl,rfl,rfl,rfl,⟨ag _ rfl,⟨rfl,rfl,(by first|rfl|(simp [aU];done)|omega|(dsimp only;omega)|(simp [aU];omega))⟩,trivial⟩,⟨⟨_,rfl,rfl,rfl,aD (enc:=a7) s (fun _=>rfl)⟩,trivial⟩⟩,fC⟩
   ·replace bc:=aj bc c7;refine bP (aY ?_);obtain⟨t4,qi,hq⟩:=aZ bc;subst hq;have hq:t4=_:=fC;subst hq;refine aY (bQ ?_);have sT:=ar qi;refine ak ⟨rfl,(),[(1300,some 1300)],⟨rfl,rfl,rfl,rfl,rfl,⟨⟨rfl,rfl,(by first|rfl|(simp [aU];done)|omega|(dsimp only;omega)|(simp [aU];omega))⟩,trivial⟩,⟨⟨_,rfl,rfl,rfl,aD (enc:=a7) s (fun _=>rfl)⟩,trivial⟩⟩,sT⟩
  ·intro w sM;subst sM;replace h:=dI h;refine aa 2 rfl (aK ?_);cases h;refine a8 ?_;exact gu [(998,some 1300)] ab rfl rfl rfl rfl ⟨rfl,rfl,(by first|rfl|(simp [aU];done)|omega|(dsimp only;omega)|(simp [aU];omega))⟩ ⟨⟨_,rfl,rfl,rfl,aD (enc:=a7) s (fun _=>rfl)⟩,trivial⟩
def CV (a:aS) (b:aS) (c:aS):Int:=
 (U ((U ((U (b.X -a.X))*(U (c.Y -a.Y)))) -(U ((U (c.X -a.X))*(U (b.Y -a.Y))))))
theorem ake (a:aS) (b:aS) (c:aS) (r:Int) (h:CV a b c=r):Holds Tryz.prog 226 [a7 a,a7 b,a7 c] [] (I r) []:=by
 unfold CV at h;refine bm Tryz.func226 rfl Tryz.ntmps226 rfl rfl rfl (fun lim=>?_);refine aa 4 rfl (aa 24 rfl (aK ?_));have e1:=h;subst e1;refine a8 ?_;refine bp ab rfl rfl ?_;exact(aB _ rfl)
def zI (e:aS) (l4:List aS):Option ((List aS)⊕(List aS)):=
 (bif(decide (2≤((l4.length:Nat):Int))) then(β (aC l4 (U (((l4.length:Nat):Int) -2))) (fun e1=>(β (aC l4 (U (((l4.length:Nat):Int) -1))) (fun e2=>(bif(decide ((CV e1 e2 e)≤0)) then(β (kJ l4 (U (((l4.length:Nat):Int) -1))) (fun l5=>some (κ l5))) else some (ι l4)))))) else some (ι l4))
def zJ (p:List aS) (l1:List aS) (vv:Int):Option (((List aS)×Int)⊕(List aS)):=
 (bif(decide (vv<((p.length:Nat):Int))) then(β ((β (aC p vv) (fun e=>(β ((bb (fun q=>zI e q) l1):Option (List aS)) (fun l3=>(β (cK 16 l3 ([e])) (fun l6=>some l6)))))):Option (List aS)) (fun l2=>some (κ (l2,U (vv+1))))) else some (ι l1))
def zK (p:List aS):Option (List aS):=
 (β ((bb (fun q=>zJ p q.1 q.2) ([],0)):Option (List aS)) (fun l=>(β (kJ l (U (((l.length:Nat):Int) -1))) (fun l7=>some l7))))
theorem VJ (p:List aS) (r:List aS) (h:zK p=some r):Holds Tryz.prog 211 [(an a7) p] [] (.arr 998 0 r.length) [(998,some ⟨94,2,r.map a7⟩)]:=by
 unfold zK at h;refine bm Tryz.func211 rfl Tryz.ntmps211 rfl rfl rfl (fun lim=>?_);refine aa 1 rfl (aa 1 rfl ?_);obtain⟨y,bw,h⟩:=ah h;refine bJ (X:=List aS) [] [] (fun w=>[(3,.arr 3 0 w.length)]) (fun w=>[(3,some ⟨94,2,w.map a7⟩)]) (fun w=>w=y) rfl rfl ?_ ?_
 ·skip;refine aq 1 rfl ?_;refine bg a7 p ab rfl rfl rfl rfl rfl rfl ?_;refine af 1 rfl (a6 ?_);refine bY (X:=(List aS)×Int) (Y:=List aS) [6,7] [] (fun q=>[(3,.arr 3 0 q.1.length),(8,I q.2)]) (fun q=>[(3,some ⟨94,2,q.1.map a7⟩)]) (fun q=>zJ p q.1 q.2) ([],0) [(3,none)] bw ⟨rfl,rfl,rfl,rfl,rfl,⟨⟨rfl,rfl,rfl⟩,ag _ rfl,trivial⟩,⟨rfl,trivial⟩⟩ (fun x vR vz au cj=>?_);obtain⟨l1,vv⟩:=x;change zJ p l1 vv=_ at au;unfold zJ at au;refine aa 1 rfl (ay ?_);refine ao (b:=decide (vv<((p.length:Nat):Int))) rfl (fun c5=>?_) (fun c5=>?_)
  ·replace au:=ai au c5;refine Zk ?_;obtain⟨y1,eH,au⟩:=ah au;refine bJ (X:=List aS) [6,7,8] [] (fun w1=>[(3,.arr 40 0 w1.length)]) (fun w1=>[(40,some ⟨94,2,w1.map a7⟩)]) (fun w1=>w1=y1) rfl rfl ?_ ?_
   ·skip;refine a6 (ay (eQ bX ?_));obtain⟨e,eX,eH⟩:=ah eH;refine bn a7 p vv e eX ab rfl rfl rfl rfl rfl rfl rfl rfl rfl ?_;refine af 3 rfl ?_;obtain⟨y2,jM,eH⟩:=ah eH;refine bJ (X:=List aS) [5,6,7,8] [5] (fun w2=>[(3,.arr 3 0 w2.length)]) (fun w2=>[(3,some ⟨94,2,w2.map a7⟩)]) (fun w2=>w2=y2) rfl rfl ?_ ?_
    ·skip;refine a6 ?_;refine bY (X:=List aS) (Y:=List aS) [5,6,7,8] [5] (fun q=>[(3,.arr 3 0 q.length)]) (fun q=>[(3,some ⟨94,2,q.map a7⟩)]) (fun q=>zI e q) l1 [(3,some 3),(5,some 5)] jM ⟨rfl,rfl,rfl,rfl,rfl,⟨⟨rfl,rfl,rfl⟩,trivial⟩,⟨⟨_,rfl,rfl,rfl,aD (enc:=a7) l1 (fun _=>rfl)⟩,trivial⟩⟩ (fun l4 jY gS bN jN=>?_);change zI e l4=_ at bN;unfold zI at bN;refine ay (aq 4 rfl ?_);refine bd rfl rfl rfl (fun g13=>?_) (fun g13=>?_)
     ·rw [g13];replace bN:=ai bN g13;refine Zr 4 rfl ?_;obtain⟨e1,eW,bN⟩:=ah bN;refine ew a7 l4 (U (((l4.length:Nat):Int) -2)) e1 eW rfl ab rfl rfl rfl rfl rfl rfl rfl rfl rfl rfl ?_;refine gO a7 l4 (U (((l4.length:Nat):Int) -2)) e1 _ eW ab rfl rfl rfl rfl rfl rfl rfl ?_;refine Zr 4 rfl ?_;obtain⟨e2,gX,bN⟩:=ah bN;refine ew a7 l4 (U (((l4.length:Nat):Int) -1)) e2 gX rfl ab rfl rfl rfl rfl rfl rfl rfl rfl rfl rfl ?_;refine gO a7 l4 (U (((l4.length:Nat):Int) -1)) e2 _ gX ab rfl rfl rfl rfl rfl rfl rfl ?_;refine Zr 1 rfl ?_;refine aM ahu (ake e1 e2 e _ rfl) rfl rfl rfl rfl rfl rfl rfl ?_;refine Zr 2 rfl ?_;refine aA (fun _=>by kernel_rfl) ?_;refine ak ?_;refine ao (b:=decide ((CV e1 e2 e)≤0)) rfl (fun eF=>?_) (fun eF=>?_)
      ·replace bN:=ai bN eF;refine Zk (a6 (aQ 4 rfl ?_));obtain⟨l5,gT,bN⟩:=ah bN;refine rz a7 l4 l5 (U (((l4.length:Nat):Int) -1)) gT rfl ab rfl rfl rfl rfl rfl rfl rfl rfl rfl rfl rfl ?_;refine Zr 1 rfl (aA nd (a_ ?_));have gY:=ar bN;subst gY;refine ak ⟨rfl,l5,[(3,some 3),(5,some 5)],⟨rfl,rfl,rfl,rfl,rfl,⟨⟨rfl,rfl,rfl⟩,trivial⟩,⟨⟨_,rfl,rfl,rfl,aD (enc:=a7) l5 (fun _=>rfl)⟩,trivial⟩⟩,jN⟩
      ·replace bN:=aj bN eF;refine bP (aY ?_);obtain⟨t,jZ,hq⟩:=aZ bN;subst hq;have hq:t=_:=jN;subst hq;refine aY (bQ ?_);have jy:=ar jZ;refine ak ⟨rfl,l4,[(3,some 3),(5,some 5)],⟨rfl,rfl,rfl,rfl,rfl,⟨⟨rfl,rfl,rfl⟩,trivial⟩,⟨⟨_,rfl,rfl,rfl,aD (enc:=a7) l4 (fun _=>rfl)⟩,trivial⟩⟩,jy⟩
     ·rw [g13];replace bN:=aj bN g13;refine Zr 16 rfl ?_;refine aA (fun _=>by kernel_rfl) ?_;refine ak ?_;refine ao rfl Zx (fun aL=>?_);clear aL;refine bP (aY ?_);obtain⟨t1,oS,hq⟩:=aZ bN;subst hq;have hq:t1=_:=jN;subst hq;refine aY (bQ ?_);have gU:=ar oS;refine ak ⟨rfl,l4,[(3,some 3),(5,some 5)],⟨rfl,rfl,rfl,rfl,rfl,⟨⟨rfl,rfl,rfl⟩,trivial⟩,⟨⟨_,rfl,rfl,rfl,aD (enc:=a7) l4 (fun _=>rfl)⟩,trivial⟩⟩,gU⟩
    ·intro l3 wm;subst wm;refine aQ 3 rfl ?_;obtain⟨l6,ml,eH⟩:=ah eH;refine dY a7 l3 ([e]) l6 ml (fun _=>rfl) rfl rfl ab rfl rfl rfl rfl rfl rfl rfl rfl rfl rfl rfl rfl rfl rfl rfl rfl rfl ?_;refine Zr 1 rfl (aA nd (a_ ?_));have fU:=ar eH;refine ak ⟨rfl,l6,[(40,some 40)],⟨rfl,rfl,rfl,rfl,rfl,⟨⟨rfl,rfl,rfl⟩,trivial⟩,⟨⟨_,rfl,rfl,rfl,aD (enc:=a7) l6 (fun _=>rfl)⟩,trivial⟩⟩,fU⟩
   ·intro l2 mX;subst mX;refine aQ 2 rfl (aA nd ?_);have kU:=ar au;subst kU;refine ak ⟨rfl,(l2,U (vv+1)),[(3,some 40)],⟨rfl,rfl,rfl,rfl,rfl,⟨⟨rfl,rfl,rfl⟩,ag _ rfl,trivial⟩,⟨⟨_,rfl,rfl,rfl,aD (enc:=a7) l2 (fun _=>rfl)⟩,trivial⟩⟩,cj⟩
  ·replace au:=aj au c5;refine bP (aY ?_);obtain⟨t2,mY,hq⟩:=aZ au;subst hq;have hq:t2=_:=cj;subst hq;refine aY (bQ ?_);have im:=ar mY;refine ak ⟨rfl,l1,[(3,some 3)],⟨rfl,rfl,rfl,rfl,rfl,⟨⟨rfl,rfl,rfl⟩,trivial⟩,⟨⟨_,rfl,rfl,rfl,aD (enc:=a7) l1 (fun _=>rfl)⟩,trivial⟩⟩,im⟩
 ·intro l dx;subst dx;refine aq 4 rfl ?_;obtain⟨l7,qA,h⟩:=ah h;refine rz a7 l l7 (U (((l.length:Nat):Int) -1)) qA rfl ab rfl rfl rfl rfl rfl rfl rfl rfl rfl rfl rfl ?_;refine af 1 rfl (aK ?_);cases h;refine a8 ?_;exact gu [(998,some 3)] ab rfl rfl rfl rfl ⟨rfl,rfl,rfl⟩ ⟨⟨_,rfl,rfl,rfl,aD (enc:=a7) _ (fun _=>rfl)⟩,trivial⟩
def zL (i:Int) (j:Int) (s1:List aS):Option ((Int×Int×(List aS))⊕(List aS)):=
 (bif(decide (i<j)) then(β (aC s1 j) (fun e=>(β (aC s1 i) (fun e1=>(β (aC s1 i) (fun e2=>(β (aC (aU s1 i e) j) (fun e3=>some (κ ((U (i+1)),U (j -1),aU (aU s1 i e) j e1)))))))))) else some (ι s1))
def CW (s:List aS):Option (List aS):=
 (bb (fun q=>zL q.1 q.2.1 q.2.2) (0,U (((s.length:Nat):Int) -1),s))
theorem akf (s:List aS) (r:List aS) (h:CW s=some r):Holds Tryz.prog 212 [.arr 1300 0 s.length] [(1300,some ⟨94,2,s.map a7⟩)] (.bR []) [(1300,some ⟨94,2,r.map a7⟩)]:=by
 unfold CW at h;refine bm Tryz.func212 rfl Tryz.ntmps212 rfl rfl rfl (fun lim=>?_);refine aa 5 rfl (a6 ?_);refine bY (X:=Int×Int×(List aS)) (Y:=List aS) [] [] (fun q=>[(2,I q.1),(3,I q.2.1),(0,.arr 1300 0 q.2.2.length)]) (fun q=>[(1300,some ⟨94,2,q.2.2.map a7⟩)]) (fun q=>zL q.1 q.2.1 q.2.2) (0,U (((s.length:Nat):Int) -1),s) [(1300,some 1300)] h ⟨rfl,rfl,rfl,rfl,rfl,⟨ag _ rfl,ag _ rfl,⟨rfl,rfl,rfl⟩,trivial⟩,⟨⟨_,rfl,rfl,rfl,aD (enc:=a7) s (fun _=>rfl)⟩,trivial⟩⟩ (fun x vR vz dU hU=>?_);obtain⟨i,j,s1⟩:=x;change zL i j s1=_ at dU;unfold zL at dU;refine ay (aa 3 rfl ?_);refine ao (b:=decide (i<j)) rfl (fun c3=>?_) (fun c3=>?_)
 ·replace dU:=ai dU c3;refine Zk (ay (a6 (aQ 6 rfl ?_)));obtain⟨e,dt,dU⟩:=ah dU;refine ew a7 s1 j e dt rfl ab rfl rfl rfl rfl rfl rfl rfl rfl rfl rfl ?_;refine gO a7 s1 j e _ dt ab rfl rfl rfl rfl rfl rfl rfl ?_;refine Zr 2 rfl ?_;obtain⟨e1,eV,dU⟩:=ah dU;refine ew a7 s1 i e1 eV rfl ab rfl rfl rfl rfl rfl rfl rfl rfl rfl rfl ?_;refine gO a7 s1 i e1 _ eV ab rfl rfl rfl rfl rfl rfl rfl ?_;obtain⟨e2,dM,dU⟩:=ah dU;refine ew a7 s1 i e2 dM rfl ab rfl rfl rfl rfl rfl rfl rfl rfl rfl rfl ?_;refine jU a7 s1 i e2 e dM ab rfl rfl rfl rfl rfl rfl rfl rfl rfl rfl rfl rfl ?_;obtain⟨e3,eU,dU⟩:=ah dU;refine ew a7 (aU s1 i e) j e3 eU (by first|rfl|(simp [aU];done)|omega|(dsimp only;omega)|(simp [aU];omega)) ab rfl rfl rfl rfl rfl rfl rfl rfl rfl rfl ?_
  refine jU a7 (aU s1 i e) j e3 e1 eU ab rfl rfl rfl rfl rfl rfl rfl rfl rfl rfl rfl rfl ?_;refine aA (fun _=>by kernel_rfl) ?_;refine a_ (ak (aQ 6 rfl (aA nd ?_)));have e8:=ar dU;subst e8;refine ak ⟨rfl,((U (i+1)),U (j -1),aU (aU s1 i e) j e1),[(1300,some 1300)],⟨rfl,rfl,rfl,rfl,rfl,⟨ag _ rfl,ag _ rfl,⟨rfl,rfl,(by first|rfl|(simp [aU];done)|omega|(dsimp only;omega)|(simp [aU];omega))⟩,trivial⟩,⟨⟨_,rfl,rfl,rfl,aD (enc:=a7) (aU (aU s1 i e) j e1) (fun _=>rfl)⟩,trivial⟩⟩,hU⟩
 ·replace dU:=aj dU c3;refine bP (aY ?_);obtain⟨t,gR,hq⟩:=aZ dU;subst hq;have hq:t=_:=hU;subst hq;refine aY (bQ ?_);cases gR;refine od ?_;exact gu [(1300,some 1300)] ab rfl rfl rfl rfl (aB _ rfl) ⟨⟨_,rfl,rfl,rfl,aD (enc:=a7) s1 (fun _=>rfl)⟩,trivial⟩
def qD (x:Int):Bool:=
 (x !=x)
theorem GK (x:Int) (r:Bool) (h:qD x=r):Holds Tryz.prog 225 [I x] [] (B r) []:=by
 unfold qD at h;refine bm Tryz.func225 rfl Tryz.ntmps225 rfl rfl rfl (fun lim=>?_);refine aa 1 rfl (aa 4 rfl (aK ?_));have e1:=h;subst e1;refine a8 ?_;refine bp ab rfl rfl ?_;exact(aB _ rfl)
def rH (x:Int) (y:Int):Int:=
 (bif(qD x) then(bif(qD y) then 0 else(-1)) else(bif(qD y) then 1 else(bif(decide (x<y)) then(-1) else(bif(decide (y<x)) then 1 else 0))))
theorem VK (x:Int) (y:Int) (r:Int) (h:rH x y=r):Holds Tryz.prog 209 [I x,I y] [] (I r) []:=by
 unfold rH at h;refine bm Tryz.func209 rfl Tryz.ntmps209 rfl rfl rfl (fun lim=>?_);refine aa 1 rfl (aq 1 rfl ?_);refine aM F3 (GK x _ rfl) rfl rfl rfl rfl rfl rfl rfl ?_;refine af 1 rfl (aq 1 rfl ?_);refine aM F3 (GK y _ rfl) rfl rfl rfl rfl rfl rfl rfl ?_;refine af 1 rfl (ay (aa 1 rfl ?_));refine ao (b:=qD x) rfl (fun c1=>?_) (fun c1=>?_)
 ·replace h:=ai h c1;refine ay (aa 1 rfl ?_);refine ao (b:=qD y) rfl (fun c2=>?_) (fun c2=>?_)
  ·replace h:=ai h c2;refine aa 1 rfl (Ze (aF ?_));have e3:=h;subst e3;refine a8 ?_;refine bp ab rfl rfl ?_;exact(aB _ rfl)
  ·replace h:=aj h c2;refine Zk (aa 1 rfl (Ze ?_));have e4:=h;subst e4;refine a8 ?_;refine bp ab rfl rfl ?_;exact(aB _ rfl)
 ·replace h:=aj h c1;refine Zk (ay (aa 1 rfl ?_));refine ao (b:=qD y) rfl (fun c5=>?_) (fun c5=>?_)
  ·replace h:=ai h c5;refine aa 1 rfl (Ze ?_);have e6:=h;subst e6;refine a8 ?_;refine bp ab rfl rfl ?_;exact(aB _ rfl)
  ·replace h:=aj h c5;refine Zk (ay (aa 3 rfl ?_));refine ao (b:=decide (x<y)) rfl (fun c7=>?_) (fun c7=>?_)
   ·replace h:=ai h c7;refine aa 1 rfl (Ze ?_);have e8:=h;subst e8;refine a8 ?_;refine bp ab rfl rfl ?_;exact(aB _ rfl)
   ·replace h:=aj h c7;refine Zk (ay (aa 3 rfl ?_));refine ao (b:=decide (y<x)) rfl (fun c9=>?_) (fun c9=>?_)
    ·replace h:=ai h c9;refine aa 1 rfl (Ze ?_);have gB:=h;subst gB;refine a8 ?_;refine bp ab rfl rfl ?_;exact(aB _ rfl)
    ·replace h:=aj h c9;refine Zk (aa 1 rfl (aK ?_));have kS:=h;subst kS;refine a8 ?_;refine bp ab rfl rfl ?_;exact(aB _ rfl)
def oY (fI:List Int) (vv:Int):Option (Int⊕(Int⊕Unit)):=
 (bif(decide (vv<((fI.length:Nat):Int))) then(β (aC fI vv) (fun e=>(bif(e !=0) then some (ι (κ e)) else some (κ (U (vv+1)))))) else some (ι (ι ())))
def CX (fI:List Int):Option Int:=
 (β ((bb (fun q=>oY fI q) 0):Option (Int⊕Unit)) (Sum.elim (fun q=>some q) (fun _=>some 0)))
theorem akg (fI:List Int) (r:Int) (h:CX fI=some r):Holds Tryz.prog 208 [(an I) fI] [] (I r) []:=by
 unfold CX at h;refine bm Tryz.func208 rfl Tryz.ntmps208 rfl rfl rfl (fun lim=>?_);refine aa 1 rfl (aa 1 rfl ?_);obtain⟨y,bw,h⟩:=ah h;refine bJ (X:=Unit) [3] [] (fun _=>[]) (fun _=>[]) (fun w=>ι w=y) rfl rfl ?_ ?_
 ·skip;refine aq 1 rfl ?_;refine bg I fI ab rfl rfl rfl rfl rfl rfl ?_;refine af 1 rfl (a6 ?_);refine bY (X:=Int) (Y:=Int⊕Unit) [3,6,7] [] (fun q=>[(8,I q)]) (fun q=>[]) (fun q=>oY fI q) 0 [] bw ⟨rfl,rfl,rfl,rfl,rfl,⟨ag _ rfl,trivial⟩,trivial⟩ (fun vv vR vz au cj=>?_);change oY fI vv=_ at au;unfold oY at au;refine aa 1 rfl (ay ?_);refine ao (b:=decide (vv<((fI.length:Nat):Int))) rfl (fun c5=>?_) (fun c5=>?_)
  ·replace au:=ai au c5;refine Zk (ay (a6 (ay (eQ bX ?_))));obtain⟨e,dM,au⟩:=ah au;refine bn I fI vv e dM ab rfl rfl rfl rfl rfl rfl rfl rfl rfl ?_;refine af 2 rfl (aa 3 rfl ?_);refine ao (b:=e !=0) rfl (fun c7=>?_) (fun c7=>?_)
   ·replace au:=ai au c7;refine aa 2 rfl (aK (aW (aF ?_)));obtain⟨t,ng,hq⟩:=aZ au;subst hq;have hq:t=_:=cj;subst hq;refine aF (aW ?_);obtain⟨t1,gR,hq⟩:=bT ng;subst hq;have hq:=bL h;replace hq:=ar hq;subst hq;refine aF ?_;exact Zq gR rfl rfl rfl
   ·replace au:=aj au c7;refine b_ (a_ (ak (aQ 2 rfl (aA nd ?_))));have kS:=ar au;subst kS;refine ak ⟨rfl,U (vv+1),[],⟨rfl,rfl,rfl,rfl,rfl,⟨ag _ rfl,trivial⟩,trivial⟩,cj⟩
  ·replace au:=aj au c5;refine bP (aY ?_);obtain⟨t2,iq,hq⟩:=aZ au;subst hq;have hq:t2=_:=cj;subst hq;refine aY (bQ ?_);have fw:=ar iq;refine ak ⟨rfl,(),[],⟨rfl,rfl,rfl,rfl,rfl,trivial,trivial⟩,fw⟩
 ·intro w dx;subst dx;replace h:=dI h;refine aa 2 rfl (aK ?_);exact Zq h rfl rfl rfl
def GL (a:aS) (b:aS):Option Int:=
 (β (CX ([rH a.X b.X,rH a.Y b.Y])) (fun ov=>some ov))
theorem akh (a:aS) (b:aS) (r:Int) (h:GL a b=some r):Holds Tryz.prog 207 [a7 a,a7 b] [] (I r) []:=by
 unfold GL at h;refine bm Tryz.func207 rfl Tryz.ntmps207 rfl rfl rfl (fun lim=>?_);refine aa 3 rfl (aq 4 rfl ?_);refine aM UG (VK a.X b.X _ rfl) rfl rfl rfl rfl rfl rfl rfl ?_;refine Zr 4 rfl ?_;refine aM UG (VK a.Y b.Y _ rfl) rfl rfl rfl rfl rfl rfl rfl ?_;refine Zr 1 rfl ?_;obtain⟨ov,bx,h⟩:=ah h;refine oG (L:=[(15,some ⟨3,1,([rH a.X b.X,rH a.Y b.Y]).map I⟩)]) aho (akg ([rH a.X b.X,rH a.Y b.Y]) ov bx) rfl rfl rfl ⟨rfl,List.not_mem_nil,trivial⟩ ⟨cV rfl rfl (fun _=>rfl),trivial⟩ rfl rfl (fun _=>rfl) rfl ?_;refine Zr 1 rfl ?_;refine aA (fun _=>by kernel_rfl) ?_;refine ak (aK ?_);exact Zq h rfl rfl rfl
def VL:Go.Shelf.Ren:=⟨fun x=>match x with
 |6=>206
 |15=>198
 |14=>224
 |28=>222
 |29=>223
 |20=>232
 |21=>233
 |22=>234
 |23=>235
 |24=>236
 |25=>237
 |26=>238
 |27=>239
 |46=>241
 |47=>228
 |48=>229
 |49=>242
 |50=>243
 |57=>244
 |n=>n,fun x=>match x with
 |22=>211
 |24=>94
 |25=>317
 |3=>3
 |39=>310
 |0=>0
 |53=>328
 |55=>196
 |4=>4
 |46=>321
 |45=>320
 |50=>202
 |5=>5
 |9=>9
 |66=>331
 |70=>335
 |76=>342
 |77=>145
 |n=>n,fun x=>x⟩
theorem aki:Go.Proofs.SlLaysF0.n6 Tryz.prog VL where
 mixed:=by kernel_rfl
 f6:=⟨Tryz.f206.name,by kernel_rfl,Tryz.func206.trans (congrArg some (by kernel_rfl))⟩
 f15:=Tryz.func198.trans (congrArg some (by kernel_rfl))
 f14:=⟨Tryz.f224.name,by kernel_rfl,Tryz.func224.trans (congrArg some (by kernel_rfl))⟩
 f28:=Tryz.func222.trans (congrArg some (by kernel_rfl))
 f29:=Tryz.func223.trans (congrArg some (by kernel_rfl))
 f20:=⟨Tryz.f232.name,by kernel_rfl,Tryz.func232.trans (congrArg some (by kernel_rfl))⟩
 f21:=⟨Tryz.f233.name,by kernel_rfl,Tryz.func233.trans (congrArg some (by kernel_rfl))⟩
 f22:=⟨Tryz.f234.name,by kernel_rfl,Tryz.func234.trans (congrArg some (by kernel_rfl))⟩
 f23:=⟨Tryz.f235.name,by kernel_rfl,Tryz.func235.trans (congrArg some (by kernel_rfl))⟩
 f24:=⟨Tryz.f236.name,by kernel_rfl,Tryz.func236.trans (congrArg some (by kernel_rfl))⟩
 f25:=⟨Tryz.f237.name,by kernel_rfl,Tryz.func237.trans (congrArg some (by kernel_rfl))⟩
 f26:=⟨Tryz.f238.name,by kernel_rfl,Tryz.func238.trans (congrArg some (by kernel_rfl))⟩
 f27:=⟨Tryz.f239.name,by kernel_rfl,Tryz.func239.trans (congrArg some (by kernel_rfl))⟩
 f46:=⟨Tryz.f241.name,by kernel_rfl,Tryz.func241.trans (congrArg some (by kernel_rfl))⟩
 f47:=Tryz.func228.trans (congrArg some (by kernel_rfl))
 f48:=Tryz.func229.trans (congrArg some (by kernel_rfl))
 f49:=⟨Tryz.f242.name,by kernel_rfl,Tryz.func242.trans (congrArg some (by kernel_rfl))⟩
 f50:=⟨Tryz.f243.name,by kernel_rfl,Tryz.func243.trans (congrArg some (by kernel_rfl))⟩
 f57:=⟨Tryz.f244.name,by kernel_rfl,Tryz.func244.trans (congrArg some (by kernel_rfl))⟩
 t22:=Tryz.underlying211
 a22:=Tryz.isAgg211
 z22:=Tryz.sizeOf211
 v22:=Tryz.zeroValue211
 t25:=Tryz.underlying317
 a25:=Tryz.isAgg317
 z25:=Tryz.sizeOf317
 v25:=Tryz.zeroValue317
 t3:=Tryz.underlying3
 a3:=Tryz.isAgg3
 z3:=Tryz.sizeOf3
 v3:=Tryz.zeroValue3
 t39:=Tryz.underlying310
 a39:=Tryz.isAgg310
 z39:=Tryz.sizeOf310
 v39:=Tryz.zeroValue310
 t0:=Tryz.underlying0
 a0:=Tryz.isAgg0
 z0:=Tryz.sizeOf0
 v0:=Tryz.zeroValue0
 t53:=Tryz.underlying328
 a53:=Tryz.isAgg328
 z53:=Tryz.sizeOf328
 v53:=Tryz.zeroValue328
 t55:=Tryz.underlying196
 a55:=Tryz.isAgg196
 z55:=Tryz.sizeOf196
 v55:=Tryz.zeroValue196
 t4:=Tryz.underlying4
 a4:=Tryz.isAgg4
 z4:=Tryz.sizeOf4
 v4:=Tryz.zeroValue4
 t46:=Tryz.underlying321
 a46:=Tryz.isAgg321
 z46:=Tryz.sizeOf321
 v46:=Tryz.zeroValue321
 t45:=Tryz.underlying320
 a45:=Tryz.isAgg320
 z45:=Tryz.sizeOf320
 v45:=Tryz.zeroValue320
 t50:=Tryz.underlying202
 a50:=Tryz.isAgg202
 z50:=Tryz.sizeOf202
 v50:=Tryz.zeroValue202
 t5:=Tryz.underlying5
 a5:=Tryz.isAgg5
 z5:=Tryz.sizeOf5
 v5:=Tryz.zeroValue5
 t9:=Tryz.underlying9
 a9:=Tryz.isAgg9
 z9:=Tryz.sizeOf9
 v9:=Tryz.zeroValue9
 t66:=Tryz.underlying331
 a66:=Tryz.isAgg331
 z66:=Tryz.sizeOf331
 v66:=Tryz.zeroValue331
 t70:=Tryz.underlying335
 a70:=Tryz.isAgg335
 z70:=Tryz.sizeOf335
 v70:=Tryz.zeroValue335
 t76:=Tryz.underlying342
 a76:=Tryz.isAgg342
 z76:=Tryz.sizeOf342
 v76:=Tryz.zeroValue342
 t77:=Tryz.underlying145
 a77:=Tryz.isAgg145
 z77:=Tryz.sizeOf145
 v77:=Tryz.zeroValue145
def zM (a b:Int):Int:=bif decide (a<b) then-1 else bif decide (b<a) then 1 else 0
def lR (a b:aS):Int:=bif zM a.X b.X !=0 then zM a.X b.X else zM a.Y b.Y
theorem VM (x y:Int):rH x y=zM x y:=by
 unfold rH qD zM;simp
theorem or_eq (a b:Int):CX [a,b]=some (bif a !=0 then a else b):=by
 have e:U (0+1)=1:=by decide
 have e2:U (1+1)=2:=by decide
 have g0:aC [a,b] 0=some a:=rfl;have g1:aC [a,b] 1=some b:=rfl;unfold CX;by_cases ha:a=0
 ·subst ha
  have s0:oY [0,b] 0=some (.inl 1):=by
   unfold oY;rw [g0];rfl
  rw [iU s0];by_cases hb:b=0
  ·subst hb
   have s1:oY [0,0] 1=some (.inl 2):=by
    unfold oY;rw [g1];rfl
   have s2:oY [0,0] 2=some (.inr (.inr ())):=rfl;rw [iU s1,fr s2];rfl
  ·have nb:(b !=0)=true:=by simp [hb]
   have s1:oY [0,b] 1=some (.inr (.inl b)):=by
    unfold oY;rw [g1,show decide ((1:Int)<(([0,b]:List Int).length:Nat))=true from rfl,cond_true,Option.bind_some,nb]
    rfl
   rw [fr s1];rfl
 ·have na:(a !=0)=true:=by simp [ha]
  have s0:oY [a,b] 0=some (.inr (.inl a)):=by
   unfold oY;rw [g0,show decide ((0:Int)<(([a,b]:List Int).length:Nat))=true from rfl,cond_true,Option.bind_some,na]
   rfl
  rw [fr s0,na];rfl
theorem akj (a b:aS):GL a b=some (lR a b):=by
 unfold GL lR;rw [or_eq,VM,VM];rfl
theorem CY (x y:aS):Go.Proofs.ltOf lR x y=decide (x.X<y.X∨x.X=y.X∧x.Y<y.Y):=by
 unfold Go.Proofs.ltOf lR zM;rcases Int.lt_trichotomy x.X y.X with h|h|h
 ·simp [h]
 ·rcases Int.lt_trichotomy x.Y y.Y with h2|h2|h2
  ·simp [h,h2]
  ·simp [h,h2]
  ·have h3:¬x.Y<y.Y:=by omega
   simp [h,h2,h3]
 ·have h3:¬x.X<y.X:=by omega
  have h4:¬x.X=y.X:=by omega
  simp [h,h3,h4]
theorem akk:Go.Sort.SWO (Go.Proofs.ltOf lR) where
 irrefl x:=by rw [CY];simp
 trans x y z h1 h2:=by rw [CY] at*;simp at*;omega
 ntrans x y z h1 h2:=by rw [CY] at*;simp at*;omega
theorem akl (x y:aS) (h1:Go.Proofs.ltOf lR x y=false) (h2:Go.Proofs.ltOf lR y x=false):x=y:=by
 rw [CY] at h1 h2;simp at h1 h2;obtain⟨a,b⟩:=x;obtain⟨c,d⟩:=y;simp at h1 h2;have e1:a=c:=by omega
 have e2:b=d:=by omega
 rw [e1,e2]
def Lo (xs:List aS):List aS:=xs.mergeSort fun x y=>!(Go.Proofs.ltOf lR) y x
def zN (a:aS):List aS→List aS
 |[]=>[a]
 |b::l=>bif !(Go.Proofs.ltOf lR) b a then a::b::l else b::zN a l
def CZ:List aS→List aS
 |[]=>[]
 |a::l=>zN a (CZ l)
theorem wG (x y:aS):(!(Go.Proofs.ltOf lR) y x)=true↔¬(y.X<x.X∨y.X=x.X∧y.Y<x.Y):=by
 rw [CY];simp only [Bool.not_eq_true',decide_eq_false_iff_not]
theorem Lp (a:aS):∀l,(zN a l).Perm (a::l)
 |[]=>List.Perm.refl _
 |b::l=>by
  rw [zN];cases !(Go.Proofs.ltOf lR) b a with
  |true=>exact List.Perm.refl _
  |false=>exact((Lp a l).cons b).trans (List.Perm.swap ..)
theorem VN (a:aS):∀l,l.Pairwise (fun x y=>(!(Go.Proofs.ltOf lR) y x)=true)→(zN a l).Pairwise fun x y=>(!(Go.Proofs.ltOf lR) y x)=true
 |[],_=>List.pairwise_singleton ..
 |b::l,h=>by
  have hb:=List.pairwise_cons.1 h;rw [zN];cases hc:!(Go.Proofs.ltOf lR) b a with
  |true=>
   refine List.pairwise_cons.2 ⟨fun q hq=>?_,h⟩;rcases List.mem_cons.1 hq with rfl|hq
   ·exact hc
   ·have h1:=hb.1 q hq;rw [wG] at*
    omega
  |false=>
   refine List.pairwise_cons.2 ⟨fun q hq=>?_,VN a l hb.2⟩;rcases List.mem_cons.1 ((Lp a l).mem_iff.1 hq) with rfl|hq
   ·rw [Bool.eq_false_iff,ne_eq,wG] at hc;rw [wG];omega
   ·exact hb.1 q hq
theorem VO:∀l,(CZ l).Perm l
 |[]=>List.Perm.refl _
 |a::l=>(Lp a _).trans ((VO l).cons a)
theorem VP:∀l,(CZ l).Pairwise fun x y=>(!(Go.Proofs.ltOf lR) y x)=true
 |[]=>List.Pairwise.nil
 |a::l=>VN a _ (VP l)
theorem VQ (l:List aS):CZ l=Lo l:=by
 refine List.Perm.eq_of_pairwise (le:=fun x y=>(!(Go.Proofs.ltOf lR) y x)=true) (fun a b _ _ h1 h2=>?_) (VP l) (List.pairwise_mergeSort (fun a b c h1 h2=>?_) (fun a b=>?_) l) ((VO l).trans (List.mergeSort_perm l _).symm)
 ·obtain⟨a1,a2⟩:=a;obtain⟨b1,b2⟩:=b;rw [wG] at h1 h2;dsimp only at h1 h2;rw [show a1=b1 by omega,show a2=b2 by omega]
 ·rw [wG] at*
  omega
 ·rw [Bool.or_eq_true,wG,wG];omega
def C0 (xs:List aS):Option (List aS):=bif decide (xs.length<4611686018427387904) then some (CZ xs) else none
theorem akm (xs:List aS) (r:List aS) (h:C0 xs=some r):Holds Tryz.prog 206 [.arr 1300 0 xs.length,.cE 207 [] []] [(1300,some ⟨94,2,xs.map a7⟩)] (.bR []) [(1300,some ⟨94,2,r.map a7⟩)]:=by
 unfold C0 at h;cases hb:decide (xs.length<4611686018427387904) with
 |false=>rw [hb] at h;cases h
 |true=>
  rw [hb] at h;have e:Lo xs=r:=(VQ xs).symm.trans (Option.some.inj h);subst e
  letI:Inhabited aS:=⟨⟨0,0⟩⟩
  exact ajm (ρ:=VL) aki 2 (by decide) Tryz.isAgg94 Tryz.sizeOf94 a7 (fun p=>[.int .i64 p.X,.int .i64 p.Y]) (fun _=>rfl) (fun x v hv=>by simp at hv;rcases hv with rfl|rfl<;>rfl) (fun x v hv=>by simp at hv;rcases hv with rfl|rfl<;>rfl) (fun _=>rfl) lR akk akl 207 (enters_of Tryz.func207 (by kernel_rfl) rfl)
   (fun x y=>akh x y _ (akj x y)) 94 xs (of_decide_eq_true hb) 206 rfl
def C1 (p:List aS):Option (List aS):=
 (bif(decide (((p.length:Nat):Int)<3)) then some ([]) else(bif(decide (32<((p.length:Nat):Int))) then some ([]) else(β (wD p) (fun iv=>(bif(!iv) then some ([]) else(β (GJ p) (fun pv=>(β (C0 pv) (fun fN=>(bif(Nat.beq fN.length pv.length) then(β (CS fN) (fun iJ=>(β (zK iJ) (fun cv=>(β (CW iJ) (fun nQ=>(bif(Nat.beq nQ.length iJ.length) then(β (zK nQ) (fun bU=>(β (cK 16 cv bU) (fun l=>(bif(decide (((l.length:Nat):Int)<3)) then some ([]) else some l))))) else none))))))) else none))))))))))
theorem akn (p:List aS) (r:List aS) (h:C1 p=some r):Holds Tryz.prog 193 [(an a7) p] [] ((an a7) r) []:=by
 unfold C1 at h;refine bm Tryz.func193 rfl Tryz.ntmps193 rfl rfl rfl (fun lim=>?_);refine aa 1 rfl (ay (aq 1 rfl ?_));refine bg a7 p ab rfl rfl rfl rfl rfl rfl ?_;refine Zr 2 rfl ?_;refine bd rfl rfl rfl (fun g1=>?_) (fun g1=>?_)
 ·rw [g1];replace h:=ai h g1;refine af 9 rfl ?_;refine ao rfl (fun aL=>?_) Zx;clear aL;refine aa 1 rfl (Ze ?_);cases h;refine a8 (bp ab rfl rfl ?_);exact cF
 ·rw [g1];replace h:=aj h g1;refine Zr 1 rfl ?_;refine bg a7 p ab rfl rfl rfl rfl rfl rfl ?_;refine Zr 3 rfl ?_;refine bd rfl rfl rfl (fun g3=>?_) (fun g3=>?_)
  ·rw [g3];replace h:=ai h g3;refine af 4 rfl ?_;refine ao rfl (fun aL=>?_) Zx;clear aL;refine aa 1 rfl (Ze ?_);cases h;refine a8 (bp ab rfl rfl ?_);exact cF
  ·rw [g3];replace h:=aj h g3;refine Zr 1 rfl ?_;obtain⟨iv,eV,h⟩:=ah h;refine aM JV (Li p iv eV) rfl rfl rfl rfl rfl rfl rfl ?_;refine af 2 rfl ?_;refine ao (b:=!iv) rfl (fun c6=>?_) (fun c6=>?_)
   ·replace h:=ai h c6;refine aa 1 rfl (Ze ?_);cases h;refine a8 (bp ab rfl rfl ?_);exact cF
   ·replace h:=aj h c6;refine Zk (aq 1 rfl ?_);obtain⟨pv,eX,h⟩:=ah h;refine iE (.arr 19 0 pv.length) [] [(19,some ⟨94,2,pv.map a7⟩)] [] [(19,some 998)] ahm (akb p pv eX) rfl rfl rfl rfl rfl trivial ⟨aB _ rfl,trivial⟩ rfl rfl trivial rfl rfl ⟨⟨_,rfl,rfl,rfl,aD (enc:=a7) pv (fun _=>rfl)⟩,trivial⟩ ⟨rfl,rfl,rfl⟩ rfl (fun h=>absurd rfl h) rfl rfl rfl ?_;refine af 1 rfl (aq 1 rfl ?_);obtain⟨fN,eN,h⟩:=ah h;obtain⟨g10,h⟩:=gw h;have ap3:fN.length=pv.length:=Nat.eq_of_beq_eq_true g10;refine iE (.bR []) [] [(19,some ⟨94,2,fN.map a7⟩)] [(1300,some 19)] [(19,some 1300)] ahn (akm pv fN eN) rfl rfl rfl rfl rfl trivial ⟨⟨rfl,rfl,rfl⟩,aB _ rfl,trivial⟩ rfl rfl ⟨⟨_,rfl,rfl,rfl,aD (enc:=a7) pv (fun _=>rfl)⟩,trivial⟩ rfl rfl ⟨⟨_,rfl,rfl,rfl,aD (enc:=a7) fN (fun _=>rfl)⟩,trivial⟩ (aB _ rfl) rfl (fun h=>absurd rfl h) rfl rfl rfl ?_;refine Zn (aq 1 rfl ?_);obtain⟨iJ,dZ,h⟩:=ah h;refine iE (.arr 23 0 iJ.length) [] [(23,some ⟨94,2,iJ.map a7⟩)] [(1300,some 19)] [(23,some 998)] ahp (akc fN iJ dZ) rfl rfl rfl rfl rfl trivial ⟨⟨rfl,rfl,(by first|rfl|(simp [aU];done)|omega|(dsimp only;omega)|(simp [aU];omega))⟩,trivial⟩ rfl rfl ⟨⟨_,rfl,rfl,rfl,aD (enc:=a7) fN (fun _=>rfl)⟩,trivial⟩ rfl rfl ⟨⟨_,rfl,rfl,rfl,aD (enc:=a7) iJ (fun _=>rfl)⟩,trivial⟩ ⟨rfl,rfl,(by first|rfl|(simp [aU];done)|omega|(dsimp only;omega)|(simp [aU];omega))⟩ rfl (fun h=>absurd rfl h) rfl rfl rfl ?_
    refine af 1 rfl (aq 1 rfl ?_);obtain⟨cv,fV,h⟩:=ah h;refine iE (.arr 25 0 cv.length) [(23,some ⟨94,2,iJ.map a7⟩)] [(25,some ⟨94,2,cv.map a7⟩)] [] [(25,some 998)] UH (VJ iJ cv fV) rfl rfl rfl rfl rfl ⟨rfl,by decide,trivial⟩ ⟨cV rfl (by first|rfl|(simp [aU];done)|omega|(dsimp only;omega)|(simp [aU];omega)) (fun _=>rfl),trivial⟩ rfl rfl trivial rfl rfl ⟨⟨_,rfl,rfl,rfl,aD (enc:=a7) cv (fun _=>rfl)⟩,trivial⟩ ⟨rfl,rfl,(by first|rfl|(simp [aU];done)|omega|(dsimp only;omega)|(simp [aU];omega))⟩ rfl (fun _=>⟨rfl,⟨BO (fun _=>rfl) _,trivial⟩⟩) rfl rfl rfl ?_
    refine af 1 rfl (aq 1 rfl ?_);obtain⟨nQ,eW,h⟩:=ah h;obtain⟨g15,h⟩:=gw h;have ap4:nQ.length=iJ.length:=Nat.eq_of_beq_eq_true g15;refine iE (.bR []) [] [(23,some ⟨94,2,nQ.map a7⟩)] [(1300,some 23)] [(23,some 1300)] ahq (akf iJ nQ eW) rfl rfl rfl rfl rfl trivial ⟨⟨rfl,rfl,(by first|rfl|(simp [aU];done)|omega|(dsimp only;omega)|(simp [aU];omega))⟩,trivial⟩ rfl rfl ⟨⟨_,rfl,rfl,rfl,aD (enc:=a7) iJ (fun _=>rfl)⟩,trivial⟩ rfl rfl ⟨⟨_,rfl,rfl,rfl,aD (enc:=a7) nQ (fun _=>rfl)⟩,trivial⟩ (aB _ rfl) rfl (fun h=>absurd rfl h) rfl rfl rfl ?_
    refine Zn (aq 2 rfl ?_);obtain⟨bU,gT,h⟩:=ah h;refine iE (.arr 30 0 bU.length) [(23,some ⟨94,2,nQ.map a7⟩)] [(30,some ⟨94,2,bU.map a7⟩)] [] [(30,some 998)] UH (VJ nQ bU gT) rfl rfl rfl rfl rfl ⟨rfl,by decide,trivial⟩ ⟨cV rfl (by first|rfl|(simp [aU];done)|omega|(dsimp only;omega)|(simp [aU];omega)) (fun _=>rfl),trivial⟩ rfl rfl trivial rfl rfl ⟨⟨_,rfl,rfl,rfl,aD (enc:=a7) bU (fun _=>rfl)⟩,trivial⟩ ⟨rfl,rfl,(by first|rfl|(simp [aU];done)|omega|(dsimp only;omega)|(simp [aU];omega))⟩ rfl (fun _=>⟨rfl,⟨BO (fun _=>rfl) _,trivial⟩⟩) rfl rfl rfl ?_
    obtain⟨l,h9,h⟩:=ah h;refine dY a7 cv bU l h9 (fun _=>rfl) (by first|rfl|(simp [aU];done)|omega|(dsimp only;omega)|(simp [aU];omega)) (by first|rfl|(simp [aU];done)|omega|(dsimp only;omega)|(simp [aU];omega)) ab rfl rfl rfl rfl rfl rfl rfl rfl rfl rfl rfl rfl rfl rfl rfl rfl rfl ?_
    refine af 1 rfl (ay (aa 3 rfl ?_));refine ao (b:=decide (((l.length:Nat):Int)<3)) rfl (fun ir=>?_) (fun ir=>?_)
    ·replace h:=ai h ir;refine aa 1 rfl (Ze ?_);cases h;refine a8 (bp ab rfl rfl ?_);exact cF
    ·replace h:=aj h ir;refine Zk (aa 2 rfl ?_);refine ed [] [] [(31,some ⟨94,2,l.map a7⟩)] [] [(2,an a7 l)] [] rfl rfl rfl rfl rfl ⟨rfl,by decide,trivial⟩ ⟨cV rfl (by first|rfl|(simp [aU];done)|omega|(dsimp only;omega)|(simp [aU];omega)) (fun _=>rfl),trivial⟩ trivial ?_
     refine aK ?_;exact Zq h rfl rfl rfl
def zO (p:List aS) (vv:Int) (fW:aJ):Option ((Int×aJ)⊕aJ):=
 (bif(decide (vv<((p.length:Nat):Int))) then(β (aC p vv) (fun e4=>some (κ ((U (vv+1)),(⟨(⟨min fW.X.a e4.X,max fW.X.b e4.X⟩:Sp),(⟨min fW.Y.a e4.Y,max fW.Y.b e4.Y⟩:Sp)⟩:aJ))))) else some (ι fW))
def C2 (p:List aS):Option aJ:=
 (bif(((p.length:Nat):Int)==0) then some (⟨(⟨0,0⟩:Sp),(⟨0,0⟩:Sp)⟩:aJ) else(β (aC p 0) (fun e=>(β (aC p 0) (fun e1=>(β (aC p 0) (fun e2=>(β (aC p 0) (fun e3=>(β ((bb (fun q=>zO p q.1 q.2) (0,(⟨(⟨e.X,e1.X⟩:Sp),(⟨e2.Y,e3.Y⟩:Sp)⟩:aJ))):Option aJ) (fun vr=>some vr)))))))))))
theorem ako (p:List aS) (r:aJ) (h:C2 p=some r):Holds Tryz.prog 194 [(an a7) p] [] (cP r) []:=by
 unfold C2 at h;refine bm Tryz.func194 rfl Tryz.ntmps194 rfl rfl rfl (fun lim=>?_);refine aa 1 rfl (ay (aq 1 rfl ?_));refine bg a7 p ab rfl rfl rfl rfl rfl rfl ?_;refine af 1 rfl ?_;refine ao (b:=((p.length:Nat):Int)==0) rfl (fun c1=>?_) (fun c1=>?_)
 ·replace h:=ai h c1;refine aa 2 rfl (Ze ?_);exact Zq h rfl rfl rfl
 ·replace h:=aj h c1;refine Zk (aq 1 rfl ?_);obtain⟨e,fx,h⟩:=ah h;refine bn a7 p 0 e fx ab rfl rfl rfl rfl rfl rfl rfl rfl rfl ?_;refine Zr 3 rfl ?_;obtain⟨e1,dt,h⟩:=ah h;refine bn a7 p 0 e1 dt ab rfl rfl rfl rfl rfl rfl rfl rfl rfl ?_;refine Zr 4 rfl ?_;obtain⟨e2,eV,h⟩:=ah h;refine bn a7 p 0 e2 eV ab rfl rfl rfl rfl rfl rfl rfl rfl rfl ?_;refine Zr 3 rfl ?_;obtain⟨e3,dM,h⟩:=ah h;refine bn a7 p 0 e3 dM ab rfl rfl rfl rfl rfl rfl rfl rfl rfl ?_;refine Zr 6 rfl ?_;refine aA (fun _=>by kernel_rfl) ?_;refine ak ?_;obtain⟨y,lK,h⟩:=ah h;refine bJ (X:=aJ) [2,3] [2] (fun w=>[]) (fun w=>[(3,some ⟨36,4,[.agg [I w.X.a,I w.X.b,I w.Y.a,I w.Y.b]]⟩)]) (fun w=>w=y) rfl rfl ?_ ?_
  ·skip;refine aq 1 rfl ?_;refine bg a7 p ab rfl rfl rfl rfl rfl rfl ?_;refine af 1 rfl (a6 ?_);refine bY (X:=Int×aJ) (Y:=aJ) [2,3,29,30] [2] (fun q=>[(31,I q.1)]) (fun q=>[(3,some ⟨36,4,[.agg [I q.2.X.a,I q.2.X.b,I q.2.Y.a,I q.2.Y.b]]⟩)]) (fun q=>zO p q.1 q.2) (0,(⟨(⟨e.X,e1.X⟩:Sp),(⟨e2.Y,e3.Y⟩:Sp)⟩:aJ)) [(3,some 3),(2,some 2)] lK ⟨rfl,rfl,rfl,rfl,rfl,⟨ag _ rfl,trivial⟩,⟨⟨_,rfl,rfl,rfl,.inl ⟨rfl,aw rfl⟩⟩,trivial⟩⟩ (fun x vR vz cD kO=>?_);obtain⟨vv,fW⟩:=x;change zO p vv fW=_ at cD;unfold zO at cD;refine aa 1 rfl (ay ?_);refine ao (b:=decide (vv<((p.length:Nat):Int))) rfl (fun cW=>?_) (fun cW=>?_)
   ·replace cD:=ai cD cW;refine Zk (ay (a6 (ay (eQ bX ?_))));obtain⟨e4,dZ,cD⟩:=ah cD;refine bn a7 p vv e4 dZ ab rfl rfl rfl rfl rfl rfl rfl rfl rfl ?_;refine af 3 rfl (aa 15 rfl (aQ 15 rfl (aA nd (a_ (ak (aQ 2 rfl (aA nd ?_)))))));have fw:=ar cD;subst fw;refine ak ⟨rfl,((U (vv+1)),(⟨(⟨min fW.X.a e4.X,max fW.X.b e4.X⟩:Sp),(⟨min fW.Y.a e4.Y,max fW.Y.b e4.Y⟩:Sp)⟩:aJ)),[(3,some 3),(2,some 2)],⟨rfl,rfl,rfl,rfl,rfl,⟨ag _ rfl,trivial⟩,⟨⟨_,rfl,rfl,rfl,.inl ⟨rfl,aw rfl⟩⟩,trivial⟩⟩,kO⟩
   ·replace cD:=aj cD cW;refine bP (aY ?_);obtain⟨t,gV,hq⟩:=aZ cD;subst hq;have hq:t=_:=kO;subst hq;refine aY (bQ ?_);have gW:=ar gV;refine ak ⟨rfl,fW,[(3,some 3),(2,some 2)],⟨rfl,rfl,rfl,rfl,rfl,trivial,⟨⟨_,rfl,rfl,rfl,.inl ⟨rfl,aw rfl⟩⟩,trivial⟩⟩,gW⟩
  ·intro vr sC;subst sC;refine aa 2 rfl (aK ?_);exact Zq h rfl rfl rfl
def zP (a:Int) (b:Int):Option Int:=
 (bif(b !=0) then(bif(b !=0) then(bif(decide ((Int.tmod a b)<0)) then some (U ((U (Int.tdiv a b)) -1)) else some (U (Int.tdiv a b))) else none) else none)
theorem VR (a:Int) (b:Int) (r:Int) (h:zP a b=some r):Holds Tryz.prog 196 [I a,I b] [] (I r) []:=by
 unfold zP at h;refine bm Tryz.func196 rfl Tryz.ntmps196 rfl rfl rfl (fun lim=>?_);refine aa 1 rfl (aq 2 rfl ?_);obtain⟨pW,h⟩:=gw h;refine FL a b pW rfl rfl rfl rfl rfl ?_;refine af 1 rfl (ay (aq 2 rfl ?_));obtain⟨CL,h⟩:=gw h;refine sq a b CL rfl rfl rfl rfl rfl ?_;refine af 1 rfl ?_;refine ao (b:=decide ((Int.tmod a b)<0)) rfl (fun c3=>?_) (fun c3=>?_)
 ·replace h:=ai h c3;refine fY 3 rfl (aa 2 rfl (aK ?_));exact Zq h rfl rfl rfl
 ·replace h:=aj h c3;refine Zk (aa 2 rfl (aK ?_));exact Zq h rfl rfl rfl
def zQ (y:Int) (p2:List aS) (uj:Int) (uk:Int) (vv:Int):Option ((Int×Int×Int)⊕(Int×Int)):=
 (bif(decide (vv<((p2.length:Nat):Int))) then(β (aC p2 vv) (fun e=>(bif(((p2.length:Nat):Int)!=0) then(β (aC p2 (Int.tmod (U (vv+1)) ((p2.length:Nat):Int))) (fun e1=>(cU ((bif(decide (e.Y<e1.Y)) then(bif(decide (e.Y≤y)) then(decide (y≤e1.Y)) else false) else false):Bool) (fun aR=>(bif aR then(β (zP (U ((U (e1.X -e.X))*(U (y -e.Y)))) (U (e1.Y -e.Y))) (fun fv=>some (κ (uj,U (e.X+fv),U (vv+1))))) else(cU ((bif(decide (e1.Y<e.Y)) then(bif(decide (e1.Y≤y)) then(decide (y≤e.Y)) else false) else false):Bool) (fun cI=>(bif cI then(β (zP (U ((U (e1.X -e.X))*(U (y -e1.Y)))) (U (e.Y -e1.Y))) (fun nh=>some (κ ((U (e1.X -nh)),uk,U (vv+1))))) else some (κ (uj,uk,U (vv+1))))))))))) else none))) else some (ι (uj,uk)))
def zR (y:Int) (p1:aJ) (p2:List aS):Option (Int×Int):=
 (β ((bb (fun q=>zQ y p2 q.1 q.2.1 q.2.2) (p1.X.a,p1.X.b,0)):Option (Int×Int)) (fun w3=>some (w3.1,w3.2)))
theorem VS (y:Int) (p1:aJ) (p2:List aS) (r:Int×Int) (h:zR y p1 p2=some r):Holds Tryz.prog 195 [I y,.ref 1000 0 0,.ref 1001 0 0] [(1000,some ⟨36,4,[cP p1]⟩),(1001,some ⟨211,1,[an a7 p2]⟩)] (.bR [I r.1,I r.2]) [(1000,some ⟨36,4,[cP p1]⟩),(1001,some ⟨211,1,[(an a7) p2]⟩)]:=by
 unfold zR at h;refine bm Tryz.func195 rfl Tryz.ntmps195 rfl rfl rfl (fun lim=>?_);refine aa 2 rfl (aq 8 rfl ?_);refine aA (fun _=>by kernel_rfl) ?_;refine ak ?_;obtain⟨y1,bw,h⟩:=ah h;refine bJ (X:=Int×Int) [] [1000,1001] (fun w=>[(6,I w.1),(7,I w.2)]) (fun w=>[]) (fun w=>w=y1) rfl rfl ?_ ?_
 ·skip;refine aq 1 rfl ?_;refine bg a7 p2 ab rfl rfl rfl rfl rfl rfl ?_;refine af 1 rfl (a6 ?_);refine bY (X:=Int×Int×Int) (Y:=Int×Int) [0,2,17,18] [1001,1000] (fun q=>[(6,I q.1),(7,I q.2.1),(19,I q.2.2)]) (fun q=>[]) (fun q=>zQ y p2 q.1 q.2.1 q.2.2) (p1.X.a,p1.X.b,0) [(1001,some 1001),(1000,some 1000)] bw ⟨rfl,rfl,rfl,rfl,rfl,⟨ag _ rfl,ag _ rfl,ag _ rfl,trivial⟩,trivial⟩ (fun x vR vz au cj=>?_);obtain⟨uj,uk,vv⟩:=x;change zQ y p2 uj uk vv=_ at au;unfold zQ at au;refine aa 1 rfl (ay ?_);refine ao (b:=decide (vv<((p2.length:Nat):Int))) rfl (fun c5=>?_) (fun c5=>?_)
  ·replace au:=ai au c5;refine Zk (ay (a6 (aq 1 rfl ?_)));obtain⟨e,dM,au⟩:=ah au;refine bn a7 p2 vv e dM ab rfl rfl rfl rfl rfl rfl rfl rfl rfl ?_;refine af 4 rfl (aq 4 rfl ?_);refine bg a7 p2 ab rfl rfl rfl rfl rfl rfl ?_;obtain⟨hd7,au⟩:=gw au;refine sq (U (vv+1)) ((p2.length:Nat):Int) hd7 rfl rfl rfl rfl rfl ?_;obtain⟨e1,eX,au⟩:=ah au;refine bn a7 p2 (Int.tmod (U (vv+1)) ((p2.length:Nat):Int)) e1 eX ab rfl rfl rfl rfl rfl rfl rfl rfl rfl ?_;refine Zr 3 rfl ?_;refine aA (fun _=>by kernel_rfl) ?_;refine ak (a6 ?_);obtain⟨y2,jM,au⟩:=dH au;refine bJ (X:=Bool) [0,2,6,7,9,10,17,18,19] [1001,9,10,1000] (fun w1=>[(32,B w1)]) (fun w1=>[]) (fun w1=>w1=y2) rfl rfl ?_ ?_
   ·skip;refine aQ 6 rfl ?_;refine bd rfl rfl rfl (fun g11=>?_) (fun g11=>?_)
    ·rw [g11];replace jM:=ai jM g11;refine Zr 6 rfl ?_;refine bd rfl rfl rfl (fun g12=>?_) (fun g12=>?_)
     ·rw [g12];replace jM:=ai jM g12;refine Zr 6 rfl (aA nd ?_);have fw:=jM;refine ak ⟨rfl,decide (y≤e1.Y),[(1001,some 1001),(9,some 9),(10,some 10),(1000,some 1000)],⟨rfl,rfl,rfl,rfl,rfl,⟨ag _ rfl,trivial⟩,trivial⟩,fw⟩
     ·rw [g12];replace jM:=aj jM g12;refine Zr 6 rfl (aA nd ?_);have ju:=jM;refine ak ⟨rfl,false,[(1001,some 1001),(9,some 9),(10,some 10),(1000,some 1000)],⟨rfl,rfl,rfl,rfl,rfl,⟨ag _ rfl,trivial⟩,trivial⟩,ju⟩
    ·rw [g11];replace jM:=aj jM g11;refine Zr 12 rfl (aA nd ?_);have gW:=jM;refine ak ⟨rfl,false,[(1001,some 1001),(9,some 9),(10,some 10),(1000,some 1000)],⟨rfl,rfl,rfl,rfl,rfl,⟨ag _ rfl,trivial⟩,trivial⟩,gW⟩
   ·intro aR wm;subst wm;refine ao (b:=aR) rfl (fun eF=>?_) (fun eF=>?_)
    ·replace au:=ai au eF;refine aQ 17 rfl ?_;obtain⟨fv,gT,au⟩:=ah au;refine aM UE (VR (U ((U (e1.X -e.X))*(U (y -e.Y)))) (U (e1.Y -e.Y)) fv gT) rfl rfl rfl rfl rfl rfl rfl ?_;refine Zr 2 rfl ?_;refine aA (fun _=>by kernel_rfl) ?_;refine a_ (a_ (ak (aQ 2 rfl (aA nd ?_))));have gY:=ar au;subst gY;refine ak ⟨rfl,(uj,U (e.X+fv),U (vv+1)),[(1001,some 1001),(1000,some 1000)],⟨rfl,rfl,rfl,rfl,rfl,⟨ag _ rfl,ag _ rfl,ag _ rfl,trivial⟩,trivial⟩,cj⟩
    ·replace au:=aj au eF;obtain⟨y3,qE,au⟩:=dH au;refine bJ (X:=Bool) [0,2,6,7,9,10,17,18,19] [1001,9,10,1000] (fun w2=>[(69,B w2)]) (fun w2=>[]) (fun w2=>w2=y3) rfl rfl ?_ ?_
     ·skip;refine aQ 6 rfl ?_;refine bd rfl rfl rfl (fun g21=>?_) (fun g21=>?_)
      ·rw [g21];replace qE:=ai qE g21;refine Zr 6 rfl ?_;refine bd rfl rfl rfl (fun g22=>?_) (fun g22=>?_)
       ·rw [g22];replace qE:=ai qE g22;refine Zr 6 rfl (aA nd ?_);have lO:=qE;refine ak ⟨rfl,decide (y≤e.Y),[(1001,some 1001),(9,some 9),(10,some 10),(1000,some 1000)],⟨rfl,rfl,rfl,rfl,rfl,⟨ag _ rfl,trivial⟩,trivial⟩,lO⟩
       ·rw [g22];replace qE:=aj qE g22;refine Zr 6 rfl (aA nd ?_);have fU:=qE;refine ak ⟨rfl,false,[(1001,some 1001),(9,some 9),(10,some 10),(1000,some 1000)],⟨rfl,rfl,rfl,rfl,rfl,⟨ag _ rfl,trivial⟩,trivial⟩,fU⟩
      ·rw [g21];replace qE:=aj qE g21;refine Zr 12 rfl (aA nd ?_);have kU:=qE;refine ak ⟨rfl,false,[(1001,some 1001),(9,some 9),(10,some 10),(1000,some 1000)],⟨rfl,rfl,rfl,rfl,rfl,⟨ag _ rfl,trivial⟩,trivial⟩,kU⟩
     ·intro cI akq;subst akq;refine ao (b:=cI) rfl (fun mV=>?_) (fun mV=>?_)
      ·replace au:=ai au mV;refine aQ 17 rfl ?_;obtain⟨nh,pI,au⟩:=ah au;refine aM UE (VR (U ((U (e1.X -e.X))*(U (y -e1.Y)))) (U (e.Y -e1.Y)) nh pI) rfl rfl rfl rfl rfl rfl rfl ?_;refine Zr 2 rfl ?_;refine aA (fun _=>by kernel_rfl) ?_;refine a_ (a_ (ak (aQ 2 rfl (aA nd ?_))));have lP:=ar au;subst lP;refine ak ⟨rfl,((U (e1.X -nh)),uk,U (vv+1)),[(1001,some 1001),(1000,some 1000)],⟨rfl,rfl,rfl,rfl,rfl,⟨ag _ rfl,ag _ rfl,ag _ rfl,trivial⟩,trivial⟩,cj⟩
      ·replace au:=aj au mV;refine b_ (a_ (a_ (ak (aQ 2 rfl (aA nd ?_)))));have jv:=ar au;subst jv;refine ak ⟨rfl,(uj,uk,U (vv+1)),[(1001,some 1001),(1000,some 1000)],⟨rfl,rfl,rfl,rfl,rfl,⟨ag _ rfl,ag _ rfl,ag _ rfl,trivial⟩,trivial⟩,cj⟩
  ·replace au:=aj au c5;refine bP (aY ?_);obtain⟨t,oT,hq⟩:=aZ au;subst hq;have hq:t=_:=cj;subst hq;refine aY (bQ ?_);have oU:=ar oT;refine ak ⟨rfl,(uj,uk),[(1000,some 1000),(1001,some 1001)],⟨rfl,rfl,rfl,rfl,rfl,⟨ag _ rfl,ag _ rfl,trivial⟩,trivial⟩,oU⟩
 ·intro w dx;subst dx;obtain⟨ap5,ap6⟩:=w;refine aa 4 rfl (aK ?_);cases h;refine a8 ?_;exact gu [(1000,some 1000),(1001,some 1001)] ab rfl rfl rfl rfl (aB _ rfl) ⟨⟨_,rfl,rfl,rfl,.inl ⟨rfl,aw rfl⟩⟩,⟨_,rfl,rfl,rfl,.inl ⟨rfl,aw rfl⟩⟩,trivial⟩
def C3 (p:List aS) (low:Int) (high:Int):Option Sp:=
 (β (C1 p) (fun hv=>(β (C2 hv) (fun bv=>(bif(((hv.length:Nat):Int)==0) then some (⟨0,0⟩:Sp) else(bif(decide (high≤low)) then some (⟨0,0⟩:Sp) else(bif(decide (low<bv.Y.a)) then some (⟨0,0⟩:Sp) else(bif(decide (bv.Y.b<high)) then some (⟨0,0⟩:Sp) else(β (zR low bv hv) (fun cv=>(β (zR high bv hv) (fun bU=>(bif(decide ((min cv.2 bU.2)≤(max cv.1 bU.1))) then some (⟨0,0⟩:Sp) else some (⟨max cv.1 bU.1,min cv.2 bU.2⟩:Sp))))))))))))))
theorem akr (p:List aS) (low:Int) (high:Int) (r:Sp) (h:C3 p low high=some r):Holds Tryz.prog 170 [(an a7) p,I low,I high] [] (bC r) []:=by
 unfold C3 at h;refine bm Tryz.func170 rfl Tryz.ntmps170 rfl rfl rfl (fun lim=>?_);refine aa 1 rfl (aq 1 rfl ?_);obtain⟨hv,bx,h⟩:=ah h;refine aM ahe (akn p hv bx) rfl rfl rfl rfl rfl rfl rfl ?_;refine af 2 rfl (aq 1 rfl ?_);obtain⟨bv,e_,h⟩:=ah h;refine aM ahf (ako hv bv e_) rfl rfl rfl rfl rfl rfl rfl ?_;refine af 2 rfl (ay (aq 1 rfl ?_));refine bg a7 hv ab rfl rfl rfl rfl rfl rfl ?_;refine Zr 2 rfl ?_;refine bd rfl rfl rfl (fun g3=>?_) (fun g3=>?_)
 ·rw [g3];replace h:=ai h g3;refine af 18 rfl ?_;refine ao rfl (fun aL=>?_) Zx;clear aL;refine aa 2 rfl (Ze ?_);exact Zq h rfl rfl rfl
 ·rw [g3];replace h:=aj h g3;refine Zr 5 rfl ?_;refine bd rfl rfl rfl (fun g5=>?_) (fun g5=>?_)
  ·rw [g5];replace h:=ai h g5;refine af 13 rfl ?_;refine ao rfl (fun aL=>?_) Zx;clear aL;refine aa 2 rfl (Ze ?_);exact Zq h rfl rfl rfl
  ·rw [g5];replace h:=aj h g5;refine Zr 7 rfl ?_;refine bd rfl rfl rfl (fun g7=>?_) (fun g7=>?_)
   ·rw [g7];replace h:=ai h g7;refine af 6 rfl ?_;refine ao rfl (fun aL=>?_) Zx;clear aL;refine aa 2 rfl (Ze ?_);exact Zq h rfl rfl rfl
   ·rw [g7];replace h:=aj h g7;refine af 6 rfl ?_;refine ao (b:=decide (bv.Y.b<high)) rfl (fun c9=>?_) (fun c9=>?_)
    ·replace h:=ai h c9;refine aa 2 rfl (Ze ?_);exact Zq h rfl rfl rfl
    ·replace h:=aj h c9;refine Zk (aa 2 rfl (aq 2 rfl ?_));obtain⟨cv,eG,h⟩:=ah h;refine yD (.bR [I cv.1,I cv.2]) [] [(8,some ⟨36,4,[.agg [I bv.X.a,I bv.X.b,I bv.Y.a,I bv.Y.b]]⟩),(7,some ⟨211,1,[an a7 hv]⟩)] [(1000,some 8),(1001,some 7)] [(8,some 1000),(7,some 1001)] UD (VS low bv hv cv eG) rfl rfl rfl rfl rfl trivial ⟨aB _ rfl,⟨rfl,rfl,rfl⟩,⟨rfl,rfl,rfl⟩,trivial⟩ rfl rfl ⟨⟨_,rfl,rfl,rfl,.inl ⟨rfl,aw rfl⟩⟩,⟨_,rfl,rfl,rfl,.inl ⟨rfl,aw rfl⟩⟩,trivial⟩ rfl rfl ⟨⟨_,rfl,rfl,rfl,.inl ⟨rfl,aw rfl⟩⟩,⟨_,rfl,rfl,rfl,.inl ⟨rfl,aw rfl⟩⟩,trivial⟩ (aB _ rfl) rfl (fun h=>absurd rfl h) ⟨rfl,rfl,trivial⟩ rfl rfl rfl ?_;refine af 5 rfl (aq 2 rfl ?_);obtain⟨bU,dZ,h⟩:=ah h;refine yD (.bR [I bU.1,I bU.2]) [] [(8,some ⟨36,4,[.agg [I bv.X.a,I bv.X.b,I bv.Y.a,I bv.Y.b]]⟩),(7,some ⟨211,1,[an a7 hv]⟩)] [(1000,some 8),(1001,some 7)] [(8,some 1000),(7,some 1001)] UD (VS high bv hv bU dZ) rfl rfl rfl rfl rfl trivial ⟨aB _ rfl,⟨rfl,rfl,rfl⟩,⟨rfl,rfl,rfl⟩,trivial⟩ rfl rfl ⟨⟨_,rfl,rfl,rfl,.inl ⟨rfl,aw rfl⟩⟩,⟨_,rfl,rfl,rfl,.inl ⟨rfl,aw rfl⟩⟩,trivial⟩ rfl rfl ⟨⟨_,rfl,rfl,rfl,.inl ⟨rfl,aw rfl⟩⟩,⟨_,rfl,rfl,rfl,.inl ⟨rfl,aw rfl⟩⟩,trivial⟩ (aB _ rfl) rfl (fun h=>absurd rfl h) ⟨rfl,rfl,trivial⟩ rfl rfl rfl ?_;refine af 5 rfl (aa 9 rfl (ay (aa 5 rfl ?_)));refine ao (b:=decide ((min cv.2 bU.2)≤(max cv.1 bU.1))) rfl (fun fa=>?_) (fun fa=>?_)
     ·replace h:=ai h fa;refine aa 2 rfl (Ze ?_);exact Zq h rfl rfl rfl
     ·replace h:=aj h fa;refine Zk (aa 2 rfl (aK ?_));exact Zq h rfl rfl rfl
def C4 (vr:Int) (p1:List aS):Option Sp:=
 (cU (wE vr (U (vr+1))) (fun hv=>(β (C3 p1 hv.a hv.b) (fun cv=>some cv))))
theorem aks (vr:Int) (p1:List aS) (r:Sp) (h:C4 vr p1=some r):Holds Tryz.prog 169 [I vr,.ref 1000 0 0] [(1000,some ⟨211,1,[an a7 p1]⟩)] (bC r) [(1000,some ⟨211,1,[(an a7) p1]⟩)]:=by
 unfold C4 at h;refine bm Tryz.func169 rfl Tryz.ntmps169 rfl rfl rfl (fun lim=>?_);refine aa 1 rfl (aq 3 rfl ?_);obtain⟨hv,bx,h⟩:=dH h;refine aM JO (Lj vr (U (vr+1)) hv bx) rfl rfl rfl rfl rfl rfl rfl ?_;refine af 2 rfl (aq 5 rfl ?_);obtain⟨cv,e_,h⟩:=ah h;refine aM ag2 (akr p1 hv.a hv.b cv e_) rfl rfl rfl rfl rfl rfl rfl ?_;refine af 1 rfl (aK ?_);cases h;refine a8 ?_;exact gu [(1000,some 1000)] ab rfl rfl rfl rfl (aB _ rfl) ⟨⟨_,rfl,rfl,rfl,.inl ⟨rfl,aw rfl⟩⟩,trivial⟩
def nS (s:Sp):Bool:=
 (decide (s.b≤s.a))
theorem zS (s:Sp) (r:Bool) (h:nS s=r):Holds Tryz.prog 157 [bC s] [] (B r) []:=by
 unfold nS at h;refine bm Tryz.func157 rfl Tryz.ntmps157 rfl rfl rfl (fun lim=>?_);refine aa 2 rfl (aa 6 rfl (aK ?_));have e1:=h;subst e1;refine a8 ?_;refine bp ab rfl rfl ?_;exact(aB _ rfl)
def GM (row:List aS) (gk:Int) (vr:Int) (s2:Int) (s3:List Sp):Option ((Int×Int×Int×(List Sp))⊕(Int×Int×(List Sp))):=
 (bif(decide (vr<60)) then(β (C4 vr row) (fun ov=>(bif(!(nS ov)) then(bif(gk==0) then(β (cK 16 s3 ([ov])) (fun l=>some (κ (((l.length:Nat):Int),U (vr+1),vr,l)))) else(β (cK 16 s3 ([ov])) (fun l1=>some (κ (((l1.length:Nat):Int),U (vr+1),s2,l1))))) else(bif(decide (0<gk)) then(β (cK 16 s3 ([(⟨0,0⟩:Sp)])) (fun l2=>some (κ (gk,U (vr+1),s2,l2)))) else some (κ (gk,U (vr+1),s2,s3)))))) else some (ι (gk,s2,s3)))
def GN (row:List aS):Option b7:=
 (β ((bb (fun q=>GM row q.1 q.2.1 q.2.2.1 q.2.2.2) (0,-60,0,[])):Option (Int×Int×(List Sp))) (fun w1=>(β (kJ w1.2.2 w1.1) (fun l3=>some (⟨w1.2.1,l3⟩:b7)))))
theorem akt (row:List aS) (r:b7) (h:GN row=some r):Holds Tryz.prog 130 [.cE 169 [] [.ref 1000 0 0]] [(1000,some ⟨211,1,[an a7 row]⟩)] (eM r) [(1000,some ⟨211,1,[(an a7) row]⟩)]:=by
 unfold GN at h;refine bm Tryz.func130 rfl Tryz.ntmps130 rfl rfl rfl (fun lim=>?_);refine aa 1 rfl (aa 1 rfl (aa 1 rfl ?_));obtain⟨y,bw,h⟩:=ah h;refine bJ (X:=Int×Int×(List Sp)) [2,3] [2,1000] (fun w=>[(4,I w.1)]) (fun w=>[(990,some ⟨34,2,w.2.2.map bC⟩),(3,some ⟨138,2,[.agg [I w.2.1,.arr 990 0 w.2.2.length]]⟩)]) (fun w=>w=y) rfl rfl ?_ ?_
 ·skip;refine aa 1 rfl (a6 ?_);refine bY (X:=Int×Int×Int×(List Sp)) (Y:=Int×Int×(List Sp)) [0,2,3] [1000,2] (fun q=>[(4,I q.1),(5,I q.2.1)]) (fun q=>[(990,some ⟨34,2,q.2.2.2.map bC⟩),(3,some ⟨138,2,[.agg [I q.2.2.1,.arr 990 0 q.2.2.2.length]]⟩)]) (fun q=>GM row q.1 q.2.1 q.2.2.1 q.2.2.2) (0,-60,0,[]) [(990,none),(3,some 3),(1000,some 1000),(2,some 2)] bw ⟨rfl,rfl,rfl,rfl,rfl,⟨ag _ rfl,ag _ rfl,trivial⟩,⟨rfl,⟨_,rfl,rfl,rfl,.inr ⟨⟨⟨ag _ rfl,⟨rfl,rfl,rfl⟩,trivial⟩,trivial⟩,⟨rfl,trivial⟩⟩⟩,trivial⟩⟩ (fun x vR vz au cj=>?_);obtain⟨gk,vr,s2,s3⟩:=x;change GM row gk vr s2 s3=_ at au;unfold GM at au;refine ay (aa 2 rfl ?_);refine ao (b:=decide (vr<60)) rfl (fun c5=>?_) (fun c5=>?_)
  ·replace au:=ai au c5;refine Zk (ay (a6 (aq 2 rfl ?_)));obtain⟨ov,dM,au⟩:=ah au;refine yD (.agg [I ov.a,I ov.b]) [] [(1000,some ⟨211,1,[an a7 row]⟩)] [(1000,some 1000)] [(1000,some 1000)] ag1 (aks vr row ov dM) rfl rfl rfl rfl rfl trivial ⟨aB _ rfl,⟨rfl,rfl,rfl⟩,trivial⟩ rfl rfl ⟨⟨_,rfl,rfl,rfl,.inl ⟨rfl,aw rfl⟩⟩,trivial⟩ rfl rfl ⟨⟨_,rfl,rfl,rfl,.inl ⟨rfl,aw rfl⟩⟩,trivial⟩ (aB _ rfl) rfl (fun h=>absurd rfl h) ⟨rfl,trivial⟩ rfl rfl rfl ?_;refine af 2 rfl (a6 (aq 1 rfl ?_));refine aM yK (zS ov _ rfl) rfl rfl rfl rfl rfl rfl rfl ?_;refine af 2 rfl ?_;refine ao (b:=!(nS ov)) rfl (fun c7=>?_) (fun c7=>?_)
   ·replace au:=ai au c7;refine ay (aa 2 rfl ?_);refine ao (b:=gk==0) rfl (fun c8=>?_) (fun c8=>?_)
    ·replace au:=ai au c8;refine fY 3 rfl (aq 4 rfl ?_);obtain⟨l,eN,au⟩:=ah au;refine dY bC s3 ([ov]) l eN (fun _=>rfl) rfl rfl ab rfl rfl rfl rfl rfl rfl rfl rfl rfl rfl rfl rfl rfl rfl rfl rfl rfl ?_;refine af 2 rfl (aQ 4 rfl (aA nd (a_ (a_ (ak (aQ 3 rfl (aA nd ?_)))))));have gB:=ar au;subst gB;refine ak ⟨rfl,(((l.length:Nat):Int),U (vr+1),vr,l),[(990,some 26),(3,some 3),(1000,some 1000),(2,some 2)],⟨rfl,rfl,rfl,rfl,rfl,⟨ag _ rfl,ag _ rfl,trivial⟩,⟨⟨_,rfl,rfl,rfl,aD (enc:=bC) l (fun _=>rfl)⟩,⟨_,rfl,rfl,rfl,.inr ⟨⟨⟨ag _ rfl,⟨rfl,rfl,rfl⟩,trivial⟩,trivial⟩,⟨rfl,trivial⟩⟩⟩,trivial⟩⟩,cj⟩
    ·replace au:=aj au c8;refine Zk (aq 4 rfl ?_);obtain⟨l1,eG,au⟩:=ah au;refine dY bC s3 ([ov]) l1 eG (fun _=>rfl) rfl rfl ab rfl rfl rfl rfl rfl rfl rfl rfl rfl rfl rfl rfl rfl rfl rfl rfl rfl ?_;refine af 2 rfl (aQ 4 rfl (aA nd (a_ (a_ (ak (aQ 3 rfl (aA nd ?_)))))));have ik:=ar au;subst ik;refine ak ⟨rfl,(((l1.length:Nat):Int),U (vr+1),s2,l1),[(990,some 26),(3,some 3),(1000,some 1000),(2,some 2)],⟨rfl,rfl,rfl,rfl,rfl,⟨ag _ rfl,ag _ rfl,trivial⟩,⟨⟨_,rfl,rfl,rfl,aD (enc:=bC) l1 (fun _=>rfl)⟩,⟨_,rfl,rfl,rfl,.inr ⟨⟨⟨ag _ rfl,⟨rfl,rfl,rfl⟩,trivial⟩,trivial⟩,⟨rfl,trivial⟩⟩⟩,trivial⟩⟩,cj⟩
   ·replace au:=aj au c7;refine aa 3 rfl ?_;refine ao (b:=decide (0<gk)) rfl (fun fa=>?_) (fun fa=>?_)
    ·replace au:=ai au fa;refine aQ 4 rfl ?_;obtain⟨l2,eW,au⟩:=ah au;refine dY bC s3 ([(⟨0,0⟩:Sp)]) l2 eW (fun _=>rfl) rfl rfl ab rfl rfl rfl rfl rfl rfl rfl rfl rfl rfl rfl rfl rfl rfl rfl rfl rfl ?_;refine Zr 2 rfl (aA nd (a_ (a_ (ak (aQ 3 rfl (aA nd ?_))))));have gW:=ar au;subst gW;refine ak ⟨rfl,(gk,U (vr+1),s2,l2),[(990,some 38),(3,some 3),(1000,some 1000),(2,some 2)],⟨rfl,rfl,rfl,rfl,rfl,⟨ag _ rfl,ag _ rfl,trivial⟩,⟨⟨_,rfl,rfl,rfl,aD (enc:=bC) l2 (fun _=>rfl)⟩,⟨_,rfl,rfl,rfl,.inr ⟨⟨⟨ag _ rfl,⟨rfl,rfl,rfl⟩,trivial⟩,trivial⟩,⟨rfl,trivial⟩⟩⟩,trivial⟩⟩,cj⟩
    ·replace au:=aj au fa;refine b_ (a_ (a_ (ak (aQ 3 rfl (aA nd ?_)))));have iY:=ar au;subst iY;refine ak ⟨rfl,(gk,U (vr+1),s2,s3),[(990,some 990),(3,some 3),(1000,some 1000),(2,some 2)],⟨rfl,rfl,rfl,rfl,rfl,⟨ag _ rfl,ag _ rfl,trivial⟩,⟨⟨_,rfl,rfl,rfl,aD (enc:=bC) s3 (fun _=>rfl)⟩,⟨_,rfl,rfl,rfl,.inr ⟨⟨⟨ag _ rfl,⟨rfl,rfl,rfl⟩,trivial⟩,trivial⟩,⟨rfl,trivial⟩⟩⟩,trivial⟩⟩,cj⟩
  ·replace au:=aj au c5;refine bP (aY ?_);obtain⟨t,iu,hq⟩:=aZ au;subst hq;have hq:t=_:=cj;subst hq;refine aY (bQ ?_);have gY:=ar iu;refine ak ⟨rfl,(gk,s2,s3),[(990,some 990),(3,some 3),(2,some 2),(1000,some 1000)],⟨rfl,rfl,rfl,rfl,rfl,⟨ag _ rfl,trivial⟩,⟨⟨_,rfl,rfl,rfl,aD (enc:=bC) s3 (fun _=>rfl)⟩,⟨_,rfl,rfl,rfl,.inr ⟨⟨⟨ag _ rfl,⟨rfl,rfl,rfl⟩,trivial⟩,trivial⟩,⟨rfl,trivial⟩⟩⟩,trivial⟩⟩,gY⟩
 ·intro w dx;subst dx;obtain⟨used,s,s1⟩:=w;refine aq 3 rfl ?_;obtain⟨l3,lS,h⟩:=ah h;refine rz bC s1 l3 used lS rfl ab rfl rfl rfl rfl rfl rfl rfl rfl rfl rfl rfl ?_;refine af 2 rfl (aa 2 rfl ?_);refine ed [2] [1000] [(990,some ⟨34,2,l3.map bC⟩)] [(2,some 2),(1000,some 1000)] [] [(2,some ⟨138,2,[.agg [I s,an bC l3]]⟩)] rfl rfl rfl rfl rfl ⟨rfl,by decide,trivial⟩ trivial ⟨⟨_,rfl,rfl,rfl,.inr ⟨⟨⟨ag _ rfl,cV rfl rfl (fun _=>rfl),trivial⟩,trivial⟩,⟨rfl,trivial⟩⟩⟩,trivial⟩ ?_;refine aK ?_;cases h;refine a8 ?_;exact gu [(1000,some 1000)] ab rfl rfl rfl rfl (aB _ rfl) ⟨⟨_,rfl,rfl,rfl,.inl ⟨rfl,aw rfl⟩⟩,trivial⟩
def C5 (p:List aS):Option (b7×Int):=
 (β (CR p) (fun cv=>(bif(cv !=0) then some ((⟨0,[]⟩:b7),cv) else(β (GN p) (fun bv=>(bif(((bv.Rows.length:Nat):Int)==0) then some ((⟨0,[]⟩:b7),18) else some (bv,0)))))))
theorem aku (p:List aS) (r:b7×Int) (h:C5 p=some r):Holds Tryz.prog 129 [(an a7) p] [] (.bR [eM r.1,I r.2]) []:=by
 unfold C5 at h;refine bm Tryz.func129 rfl Tryz.ntmps129 rfl rfl rfl (fun lim=>?_);refine aa 3 rfl (ay (aq 1 rfl ?_));obtain⟨cv,bx,h⟩:=ah h;refine aM ag0 (aka p cv bx) rfl rfl rfl rfl rfl rfl rfl ?_;refine af 1 rfl (aa 2 rfl ?_);refine ao (b:=cv !=0) rfl (fun c2=>?_) (fun c2=>?_)
 ·replace h:=ai h c2;refine aa 4 rfl (Ze ?_);cases h;refine a8 (bp ab rfl rfl ?_);exact⟨⟨aB _ rfl,cF,trivial⟩,aB _ rfl,trivial⟩
 ·replace h:=aj h c2;refine Zk (aq 1 rfl ?_);obtain⟨bv,dt,h⟩:=ah h;refine yD (.agg [I bv.b6,an bC bv.Rows]) [] [(1,some ⟨211,1,[an a7 p]⟩)] [(1000,some 1)] [(1,some 1000)] Un (akt p bv dt) rfl rfl rfl rfl rfl trivial ⟨⟨rfl,trivial,⟨⟨rfl,rfl,rfl⟩,trivial⟩⟩,trivial⟩ rfl rfl ⟨⟨_,rfl,rfl,rfl,.inl ⟨rfl,aw rfl⟩⟩,trivial⟩ rfl rfl ⟨⟨_,rfl,rfl,rfl,.inl ⟨rfl,aw rfl⟩⟩,trivial⟩ (aB _ rfl) rfl (fun h=>absurd rfl h) ⟨rfl,trivial⟩ rfl rfl rfl ?_;refine af 2 rfl (ay (aq 2 rfl ?_));refine bg bC bv.Rows ab rfl rfl rfl rfl rfl rfl ?_;refine af 1 rfl ?_;refine ao (b:=((bv.Rows.length:Nat):Int)==0) rfl (fun c5=>?_) (fun c5=>?_)
  ·replace h:=ai h c5;refine aa 3 rfl (Ze ?_);cases h;refine a8 (bp ab rfl rfl ?_);exact⟨⟨aB _ rfl,cF,trivial⟩,aB _ rfl,trivial⟩
  ·replace h:=aj h c5;refine Zk (aa 3 rfl (aK ?_));cases h;exact a8 (bp ab rfl rfl (aB _ rfl))
def C6 (vr:cw) (cZ:Int) (most:Int):Option (b7×Int):=
 (β (CG vr cZ) (fun cv=>(β (CN cv most) (fun rv=>(bif(rv.2!=0) then some ((⟨0,[]⟩:b7),rv.2) else(β (C5 rv.1) (fun ov=>some (ov.1,ov.2))))))))
theorem akv (vr:cw) (cZ:Int) (most:Int) (r:b7×Int) (h:C6 vr cZ most=some r):Holds Tryz.prog 73 [cN vr,I cZ,I most] [] (.bR [eM r.1,I r.2]) []:=by
 unfold C6 at h;refine bm Tryz.func73 rfl Tryz.ntmps73 rfl rfl rfl (fun lim=>?_);refine aa 3 rfl (aq 2 rfl ?_);obtain⟨cv,bx,h⟩:=ah h;refine aM agJ (aj5 vr cZ cv bx) rfl rfl rfl rfl rfl rfl rfl ?_;refine Zr 1 rfl ?_;obtain⟨rv,e_,h⟩:=ah h;refine aM agI (aj7 cv most rv e_) rfl rfl rfl rfl rfl rfl rfl ?_;refine af 5 rfl (ay (aa 2 rfl ?_));refine ao (b:=rv.2!=0) rfl (fun c3=>?_) (fun c3=>?_)
 ·replace h:=ai h c3;refine aa 4 rfl (Ze ?_);cases h;refine a8 (bp ab rfl rfl ?_);exact⟨⟨aB _ rfl,cF,trivial⟩,aB _ rfl,trivial⟩
 ·replace h:=aj h c3;refine Zk (aq 1 rfl ?_);obtain⟨ov,eV,h⟩:=ah h;refine aM agK (aku rv.1 ov eV) rfl rfl rfl rfl rfl rfl rfl ?_;refine af 4 rfl (aK ?_);cases h;exact a8 (bp ab rfl rfl (aB _ rfl))
def zT (s:Sp):Bool:=
 (bif(decide ((-600)≤(min s.a s.b))) then(decide ((max s.a s.b)≤600)) else false)
theorem akw (s:Sp) (r:Bool) (h:zT s=r):Holds Tryz.prog 171 [bC s] [] (B r) []:=by
 unfold zT at h;refine bm Tryz.func171 rfl Tryz.ntmps171 rfl rfl rfl (fun lim=>?_);refine aa 2 rfl (aq 7 rfl ?_);refine bd rfl rfl rfl (fun g1=>?_) (fun g1=>?_)
 ·rw [g1];replace h:=ai h g1;refine af 8 rfl (aK ?_);have e2:=h;subst e2;refine a8 ?_;refine bp ab rfl rfl ?_;exact(aB _ rfl)
 ·rw [g1];replace h:=aj h g1;refine af 8 rfl (aK ?_);have e3:=h;subst e3;refine a8 ?_;refine bp ab rfl rfl ?_;exact(aB _ rfl)
def wH (s:b7) (vv:Int):Option (Int⊕(Int⊕Unit)):=
 (bif(decide (vv<((s.Rows.length:Nat):Int))) then(β (aC s.Rows vv) (fun e=>(bif(!(zT e)) then some (ι (κ 9)) else some (κ (U (vv+1)))))) else some (ι (ι ())))
def wI (s:b7) (aR:Int):Option (Int⊕(Int⊕Unit)):=
 (bif(decide (aR<((s.Rows.length:Nat):Int))) then(β (aC s.Rows aR) (fun e3=>(bif(nS e3) then(bif(!(gx bC e3 (⟨0,0⟩:Sp))) then some (ι (κ 19)) else some (κ (U (aR+1)))) else some (κ (U (aR+1)))))) else some (ι (ι ())))
def zU (s:b7):Option Int:=
 (bif(decide (120<((s.Rows.length:Nat):Int))) then some 4 else(bif(decide (s.b6<(-60))) then some 9 else(bif(decide ((U (60 -((s.Rows.length:Nat):Int)))<s.b6)) then some 9 else(β ((bb (fun q=>wH s q) 0):Option (Int⊕Unit)) (Sum.elim (fun q=>some q) (fun _=>(bif(((s.Rows.length:Nat):Int)==0) then(bif(s.b6 !=0) then some 19 else some 0) else(β (aC s.Rows 0) (fun e1=>(bif(nS e1) then some 19 else(β (aC s.Rows (U (((s.Rows.length:Nat):Int) -1))) (fun e2=>(bif(nS e2) then some 19 else(β ((bb (fun q=>wI s q) 0):Option (Int⊕Unit)) (Sum.elim (fun q=>some q) (fun _=>some 0))))))))))))))))
theorem VT (s:b7) (r:Int) (h:zU s=some r):Holds Tryz.prog 133 [eM s] [] (I r) []:=by
 unfold zU at h;refine bm Tryz.func133 rfl Tryz.ntmps133 rfl rfl rfl (fun lim=>?_);refine aa 2 rfl (aq 2 rfl ?_);refine bg bC s.Rows ab rfl rfl rfl rfl rfl rfl ?_;refine af 1 rfl (ay (aa 2 rfl ?_));refine ao (b:=decide (120<((s.Rows.length:Nat):Int))) rfl (fun c1=>?_) (fun c1=>?_)
 ·replace h:=ai h c1;refine aa 1 rfl (Ze ?_);exact Zq h rfl rfl rfl
 ·replace h:=aj h c1;refine Zk (ay (aq 4 rfl ?_));refine bd rfl rfl rfl (fun g3=>?_) (fun g3=>?_)
  ·rw [g3];replace h:=ai h g3;refine af 6 rfl ?_;refine ao rfl (fun aL=>?_) Zx;clear aL;refine aa 1 rfl (Ze ?_);exact Zq h rfl rfl rfl
  ·rw [g3];replace h:=aj h g3;refine af 6 rfl ?_;refine ao (b:=decide ((U (60 -((s.Rows.length:Nat):Int)))<s.b6)) rfl (fun c5=>?_) (fun c5=>?_)
   ·replace h:=ai h c5;refine aa 1 rfl (Ze ?_);exact Zq h rfl rfl rfl
   ·replace h:=aj h c5;refine Zk ?_;obtain⟨y,lK,h⟩:=ah h;refine bJ (X:=Unit) [1,3] [1] (fun _=>[]) (fun _=>[]) (fun w=>ι w=y) rfl rfl ?_ ?_
    ·skip;refine aq 2 rfl ?_;refine bg bC s.Rows ab rfl rfl rfl rfl rfl rfl ?_;refine af 1 rfl (a6 ?_);refine bY (X:=Int) (Y:=Int⊕Unit) [1,3,24,25] [1] (fun q=>[(26,I q)]) (fun q=>[]) (fun q=>wH s q) 0 [(1,some 1)] lK ⟨rfl,rfl,rfl,rfl,rfl,⟨ag _ rfl,trivial⟩,trivial⟩ (fun vv vR vz cD kO=>?_);change wH s vv=_ at cD;unfold wH at cD;refine aa 1 rfl (ay ?_);refine ao (b:=decide (vv<((s.Rows.length:Nat):Int))) rfl (fun cW=>?_) (fun cW=>?_)
     ·replace cD:=ai cD cW;refine Zk (ay (a6 (ay (eQ bX ?_))));obtain⟨e,dZ,cD⟩:=ah cD;refine bn bC s.Rows vv e dZ ab rfl rfl rfl rfl rfl rfl rfl rfl rfl ?_;refine af 3 rfl (aq 1 rfl ?_);refine aM ag3 (akw e _ rfl) rfl rfl rfl rfl rfl rfl rfl ?_;refine af 1 rfl ?_;refine ao (b:=!(zT e)) rfl (fun fa=>?_) (fun fa=>?_)
      ·replace cD:=ai cD fa;refine aa 1 rfl (aK (aW (aF ?_)));obtain⟨t,gV,hq⟩:=aZ cD;subst hq;have hq:t=_:=kO;subst hq;refine aF (aW ?_);obtain⟨t1,lL,hq⟩:=bT gV;subst hq;have hq:=bL h;replace hq:=ar hq;subst hq;refine aF ?_;exact Zq lL rfl rfl rfl
      ·replace cD:=aj cD fa;refine b_ (a_ (ak (aQ 2 rfl (aA nd ?_))));have mW:=ar cD;subst mW;refine ak ⟨rfl,U (vv+1),[(1,some 1)],⟨rfl,rfl,rfl,rfl,rfl,⟨ag _ rfl,trivial⟩,trivial⟩,kO⟩
     ·replace cD:=aj cD cW;refine bP (aY ?_);obtain⟨t2,jr,hq⟩:=aZ cD;subst hq;have hq:t2=_:=kO;subst hq;refine aY (bQ ?_);have kL:=ar jr;refine ak ⟨rfl,(),[(1,some 1)],⟨rfl,rfl,rfl,rfl,rfl,trivial,trivial⟩,kL⟩
    ·intro w sC;subst sC;replace h:=dI h;refine ay (aa 2 rfl ?_);refine ao (b:=((s.Rows.length:Nat):Int)==0) rfl (fun kR=>?_) (fun kR=>?_)
     ·replace h:=ai h kR;refine ay (aa 3 rfl ?_);refine ao (b:=s.b6 !=0) rfl (fun fJ=>?_) (fun fJ=>?_)
      ·replace h:=ai h fJ;refine aa 1 rfl (Ze (aF ?_));exact Zq h rfl rfl rfl
      ·replace h:=aj h fJ;refine Zk (aa 1 rfl (Ze ?_));exact Zq h rfl rfl rfl
     ·replace h:=aj h kR;refine Zk (ay (aq 2 rfl ?_));obtain⟨e1,qF,h⟩:=ah h;refine bn bC s.Rows 0 e1 qF ab rfl rfl rfl rfl rfl rfl rfl rfl rfl ?_;refine Zr 1 rfl ?_;refine aM yK (zS e1 _ rfl) rfl rfl rfl rfl rfl rfl rfl ?_;refine Zr 1 rfl ?_;refine bd rfl rfl rfl (fun lT=>?_) (fun lT=>?_)
      ·rw [lT];replace h:=ai h lT;refine af 8 rfl ?_;refine ao rfl (fun aL=>?_) Zx;clear aL;refine aa 1 rfl (Ze ?_);exact Zq h rfl rfl rfl
      ·rw [lT];replace h:=aj h lT;refine Zr 4 rfl ?_;obtain⟨e2,pI,h⟩:=ah h;refine bn bC s.Rows (U (((s.Rows.length:Nat):Int) -1)) e2 pI ab rfl rfl rfl rfl rfl rfl rfl rfl rfl ?_;refine Zr 1 rfl ?_;refine aM yK (zS e2 _ rfl) rfl rfl rfl rfl rfl rfl rfl ?_;refine af 1 rfl ?_;refine ao (b:=nS e2) rfl (fun kT=>?_) (fun kT=>?_)
       ·replace h:=ai h kT;refine aa 1 rfl (Ze ?_);exact Zq h rfl rfl rfl
       ·replace h:=aj h kT;refine Zk ?_;obtain⟨y1,KT,h⟩:=ah h;refine bJ (X:=Unit) [] [] (fun _=>[]) (fun _=>[]) (fun w1=>ι w1=y1) rfl rfl ?_ ?_
        ·skip;refine aq 2 rfl ?_;refine bg bC s.Rows ab rfl rfl rfl rfl rfl rfl ?_;refine af 1 rfl (a6 ?_);refine bY (X:=Int) (Y:=Int⊕Unit) [54,55] [] (fun q=>[(56,I q)]) (fun q=>[]) (fun q=>wI s q) 0 [] KT ⟨rfl,rfl,rfl,rfl,rfl,⟨ag _ rfl,trivial⟩,trivial⟩ (fun aR jY gS dL qq=>?_);change wI s aR=_ at dL;unfold wI at dL;refine aa 1 rfl (ay ?_);refine ao (b:=decide (aR<((s.Rows.length:Nat):Int))) rfl (fun kP=>?_) (fun kP=>?_)
         ·replace dL:=ai dL kP;refine Zk (ay (a6 (ay (eQ bX ?_))));obtain⟨e3,mi,dL⟩:=ah dL;refine bn bC s.Rows aR e3 mi ab rfl rfl rfl rfl rfl rfl rfl rfl rfl ?_;refine af 3 rfl (aq 1 rfl ?_);refine aM yK (zS e3 _ rfl) rfl rfl rfl rfl rfl rfl rfl ?_;refine Zr 1 rfl ?_;refine bd rfl rfl rfl (fun qg=>?_) (fun qg=>?_)
          ·rw [qg];replace dL:=ai dL qg;refine Zr 2 rfl ?_;refine eL rfl (tL rk rfl Vt Vu (by decide) rfl rfl rfl rfl rfl) rfl rfl rfl ?_;refine af 1 rfl ?_;refine ao (b:=!(gx bC e3 (⟨0,0⟩:Sp))) rfl (fun wJ=>?_) (fun wJ=>?_)
           ·replace dL:=ai dL wJ;refine aa 1 rfl (aK (aW (aF ?_)));obtain⟨t3,mU,hq⟩:=aZ dL;subst hq;have hq:t3=_:=qq;subst hq;refine aF (aW ?_);obtain⟨t4,Cw,hq⟩:=bT mU;subst hq;have hq:=bL h;replace hq:=ar hq;subst hq;refine aF ?_;exact Zq Cw rfl rfl rfl
           ·replace dL:=aj dL wJ;refine b_ (a_ (ak (aQ 2 rfl (aA nd ?_))));have qC:=ar dL;subst qC;refine ak ⟨rfl,U (aR+1),[],⟨rfl,rfl,rfl,rfl,rfl,⟨ag _ rfl,trivial⟩,trivial⟩,qq⟩
          ·rw [qg];replace dL:=aj dL qg;refine af 4 rfl ?_;refine ao rfl Zx (fun aL=>?_);clear aL;refine b_ (a_ (ak (aQ 2 rfl (aA nd ?_))));have qv:=ar dL;subst qv;refine ak ⟨rfl,U (aR+1),[],⟨rfl,rfl,rfl,rfl,rfl,⟨ag _ rfl,trivial⟩,trivial⟩,qq⟩
         ·replace dL:=aj dL kP;refine bP (aY ?_);obtain⟨t5,oQ,hq⟩:=aZ dL;subst hq;have hq:t5=_:=qq;subst hq;refine aY (bQ ?_);have CQ:=ar oQ;refine ak ⟨rfl,(),[],⟨rfl,rfl,rfl,rfl,rfl,trivial,trivial⟩,CQ⟩
        ·intro w1 KU;subst KU;replace h:=dI h;refine aa 1 rfl (aK ?_);exact Zq h rfl rfl rfl
def qG (s:b7):Option b7:=
 (β (zU s) (fun cv=>(bif(cv !=0) then some (⟨0,[]⟩:b7) else some s)))
theorem C7 (s:b7) (r:b7) (h:qG s=some r):Holds Tryz.prog 95 [eM s] [] (eM r) []:=by
 unfold qG at h;refine bm Tryz.func95 rfl Tryz.ntmps95 rfl rfl rfl (fun lim=>?_);refine aa 2 rfl (ay (aq 1 rfl ?_));obtain⟨cv,bx,h⟩:=ah h;refine aM Up (VT s cv bx) rfl rfl rfl rfl rfl rfl rfl ?_;refine af 1 rfl ?_;refine ao (b:=cv !=0) rfl (fun c2=>?_) (fun c2=>?_)
 ·replace h:=ai h c2;refine aa 2 rfl (Ze ?_);cases h;refine a8 (bp ab rfl rfl ?_);exact⟨aB _ rfl,cF,trivial⟩
 ·replace h:=aj h c2;refine Zk (aa 2 rfl (aK ?_));exact Zq h rfl rfl rfl
def zV (s:b7) (vr:Int):Option Sp:=
 (bif(decide (vr<s.b6)) then some (⟨0,0⟩:Sp) else(bif(decide ((U (s.b6+((s.Rows.length:Nat):Int)))≤vr)) then some (⟨0,0⟩:Sp) else(β (aC s.Rows (U (vr -s.b6))) (fun e=>some e))))
theorem VU (s:b7) (vr:Int) (r:Sp) (h:zV s vr=some r):Holds Tryz.prog 132 [eM s,I vr] [] (bC r) []:=by
 unfold zV at h;refine bm Tryz.func132 rfl Tryz.ntmps132 rfl rfl rfl (fun lim=>?_);refine aa 2 rfl (ay (aq 5 rfl ?_));refine bd rfl rfl rfl (fun g1=>?_) (fun g1=>?_)
 ·rw [g1];replace h:=ai h g1;refine af 9 rfl ?_;refine ao rfl (fun aL=>?_) Zx;clear aL;refine aa 2 rfl (Ze ?_);exact Zq h rfl rfl rfl
 ·rw [g1];replace h:=aj h g1;refine Zr 5 rfl ?_;refine bg bC s.Rows ab rfl rfl rfl rfl rfl rfl ?_;refine af 3 rfl ?_;refine ao (b:=decide ((U (s.b6+((s.Rows.length:Nat):Int)))≤vr)) rfl (fun c3=>?_) (fun c3=>?_)
  ·replace h:=ai h c3;refine aa 2 rfl (Ze ?_);exact Zq h rfl rfl rfl
  ·replace h:=aj h c3;refine Zk (aq 6 rfl ?_);obtain⟨e,eV,h⟩:=ah h;refine bn bC s.Rows (U (vr -s.b6)) e eV ab rfl rfl rfl rfl rfl rfl rfl rfl rfl ?_;refine af 2 rfl (aK ?_);exact Zq h rfl rfl rfl
def pK (a:Sp) (b:Sp):Sp:=
 (bif(decide ((min a.b b.b)≤(max a.a b.a))) then(⟨0,0⟩:Sp) else(⟨max a.a b.a,min a.b b.b⟩:Sp))
theorem wK (a:Sp) (b:Sp) (r:Sp) (h:pK a b=r):Holds Tryz.prog 47 [bC a,bC b] [] (bC r) []:=by
 unfold pK at h;refine bm Tryz.func47 rfl Tryz.ntmps47 rfl rfl rfl (fun lim=>?_);refine aa 3 rfl (aa 13 rfl (ay (aa 5 rfl ?_)));refine ao (b:=decide ((min a.b b.b)≤(max a.a b.a))) rfl (fun c1=>?_) (fun c1=>?_)
 ·replace h:=ai h c1;refine aa 2 rfl (Ze ?_);have e2:=h;subst e2;refine a8 ?_;refine bp ab rfl rfl ?_;exact(aB _ rfl)
 ·replace h:=aj h c1;refine Zk (aa 2 rfl (aK ?_));have e3:=h;subst e3;refine a8 ?_;refine bp ab rfl rfl ?_;exact(aB _ rfl)
def C8 (vr:Int) (p1:b7) (p2:b7):Option Sp:=
 (β (zV p1 vr) (fun av=>(β (zV p2 vr) (fun GO=>(cU (pK av GO) (fun mv=>some mv))))))
theorem akx (vr:Int) (p1:b7) (p2:b7) (r:Sp) (h:C8 vr p1 p2=some r):Holds Tryz.prog 131 [I vr,.ref 1000 0 0,.ref 1001 0 0] [(1000,some ⟨138,2,[eM p1]⟩),(1001,some ⟨138,2,[eM p2]⟩)] (bC r) [(1000,some ⟨138,2,[eM p1]⟩),(1001,some ⟨138,2,[eM p2]⟩)]:=by
 unfold C8 at h;refine bm Tryz.func131 rfl Tryz.ntmps131 rfl rfl rfl (fun lim=>?_);refine aa 1 rfl (aq 2 rfl ?_);obtain⟨av,bx,h⟩:=ah h;refine aM Uo (VU p1 vr av bx) rfl rfl rfl rfl rfl rfl rfl ?_;refine Zr 2 rfl ?_;obtain⟨GO,e_,h⟩:=ah h;refine aM Uo (VU p2 vr GO e_) rfl rfl rfl rfl rfl rfl rfl ?_;obtain⟨mv,fx,h⟩:=dH h;refine aM vN (wK av GO mv fx) rfl rfl rfl rfl rfl rfl rfl ?_;refine Zr 1 rfl ?_;refine aA (fun _=>by kernel_rfl) ?_;refine ak (aK ?_);cases h;refine a8 ?_;exact gu [(1000,some 1000),(1001,some 1001)] ab rfl rfl rfl rfl (aB _ rfl) ⟨⟨_,rfl,rfl,rfl,.inl ⟨rfl,aw rfl⟩⟩,⟨_,rfl,rfl,rfl,.inl ⟨rfl,aw rfl⟩⟩,trivial⟩
def GP (row:b7) (p2:b7) (gk:Int) (vr:Int) (s2:Int) (s3:List Sp):Option ((Int×Int×Int×(List Sp))⊕(Int×Int×(List Sp))):=
 (bif(decide (vr<60)) then(β (C8 vr row p2) (fun mv=>(bif(!(nS mv)) then(bif(gk==0) then(β (cK 16 s3 ([mv])) (fun l=>some (κ (((l.length:Nat):Int),U (vr+1),vr,l)))) else(β (cK 16 s3 ([mv])) (fun l1=>some (κ (((l1.length:Nat):Int),U (vr+1),s2,l1))))) else(bif(decide (0<gk)) then(β (cK 16 s3 ([(⟨0,0⟩:Sp)])) (fun l2=>some (κ (gk,U (vr+1),s2,l2)))) else some (κ (gk,U (vr+1),s2,s3)))))) else some (ι (gk,s2,s3)))
def GQ (row:b7) (p2:b7):Option b7:=
 (β ((bb (fun q=>GP row p2 q.1 q.2.1 q.2.2.1 q.2.2.2) (0,-60,0,[])):Option (Int×Int×(List Sp))) (fun w1=>(β (kJ w1.2.2 w1.1) (fun l3=>some (⟨w1.2.1,l3⟩:b7)))))
theorem aky (row:b7) (p2:b7) (r:b7) (h:GQ row p2=some r):Holds Tryz.prog 130 [.cE 131 [] [.ref 1000 0 0,.ref 1001 0 0]] [(1000,some ⟨138,2,[eM row]⟩),(1001,some ⟨138,2,[eM p2]⟩)] (eM r) [(1000,some ⟨138,2,[eM row]⟩),(1001,some ⟨138,2,[eM p2]⟩)]:=by
 unfold GQ at h;refine bm Tryz.func130 rfl Tryz.ntmps130 rfl rfl rfl (fun lim=>?_);refine aa 1 rfl (aa 1 rfl (aa 1 rfl ?_));obtain⟨y,bw,h⟩:=ah h;refine bJ (X:=Int×Int×(List Sp)) [2,3] [2,1000,1001] (fun w=>[(4,I w.1)]) (fun w=>[(990,some ⟨34,2,w.2.2.map bC⟩),(3,some ⟨138,2,[.agg [I w.2.1,.arr 990 0 w.2.2.length]]⟩)]) (fun w=>w=y) rfl rfl ?_ ?_
 ·skip;refine aa 1 rfl (a6 ?_);refine bY (X:=Int×Int×Int×(List Sp)) (Y:=Int×Int×(List Sp)) [0,2,3] [1000,1001,2] (fun q=>[(4,I q.1),(5,I q.2.1)]) (fun q=>[(990,some ⟨34,2,q.2.2.2.map bC⟩),(3,some ⟨138,2,[.agg [I q.2.2.1,.arr 990 0 q.2.2.2.length]]⟩)]) (fun q=>GP row p2 q.1 q.2.1 q.2.2.1 q.2.2.2) (0,-60,0,[]) [(990,none),(3,some 3),(1000,some 1000),(1001,some 1001),(2,some 2)] bw ⟨rfl,rfl,rfl,rfl,rfl,⟨ag _ rfl,ag _ rfl,trivial⟩,⟨rfl,⟨_,rfl,rfl,rfl,.inr ⟨⟨⟨ag _ rfl,⟨rfl,rfl,rfl⟩,trivial⟩,trivial⟩,⟨rfl,trivial⟩⟩⟩,trivial⟩⟩ (fun x vR vz au cj=>?_);obtain⟨gk,vr,s2,s3⟩:=x;change GP row p2 gk vr s2 s3=_ at au;unfold GP at au;refine ay (aa 2 rfl ?_);refine ao (b:=decide (vr<60)) rfl (fun c5=>?_) (fun c5=>?_)
  ·replace au:=ai au c5;refine Zk (ay (a6 (aq 2 rfl ?_)));obtain⟨mv,dM,au⟩:=ah au;refine yD (.agg [I mv.a,I mv.b]) [] [(1000,some ⟨138,2,[.agg [I row.b6,an bC row.Rows]]⟩),(1001,some ⟨138,2,[.agg [I p2.b6,an bC p2.Rows]]⟩)] [(1000,some 1000),(1001,some 1001)] [(1000,some 1000),(1001,some 1001)] agL (akx vr row p2 mv dM) rfl rfl rfl rfl rfl trivial ⟨aB _ rfl,⟨rfl,rfl,rfl⟩,⟨rfl,rfl,rfl⟩,trivial⟩ rfl rfl ⟨⟨_,rfl,rfl,rfl,.inl ⟨rfl,aw rfl⟩⟩,⟨_,rfl,rfl,rfl,.inl ⟨rfl,aw rfl⟩⟩,trivial⟩ rfl rfl ⟨⟨_,rfl,rfl,rfl,.inl ⟨rfl,aw rfl⟩⟩,⟨_,rfl,rfl,rfl,.inl ⟨rfl,aw rfl⟩⟩,trivial⟩ (aB _ rfl) rfl (fun h=>absurd rfl h) ⟨rfl,rfl,trivial⟩ rfl rfl rfl ?_;refine af 2 rfl (a6 (aq 1 rfl ?_));refine aM yK (zS mv _ rfl) rfl rfl rfl rfl rfl rfl rfl ?_;refine af 2 rfl ?_;refine ao (b:=!(nS mv)) rfl (fun c7=>?_) (fun c7=>?_)
   ·replace au:=ai au c7;refine ay (aa 2 rfl ?_);refine ao (b:=gk==0) rfl (fun c8=>?_) (fun c8=>?_)
    ·replace au:=ai au c8;refine fY 3 rfl (aq 4 rfl ?_);obtain⟨l,eN,au⟩:=ah au;refine dY bC s3 ([mv]) l eN (fun _=>rfl) rfl rfl ab rfl rfl rfl rfl rfl rfl rfl rfl rfl rfl rfl rfl rfl rfl rfl rfl rfl ?_;refine af 2 rfl (aQ 4 rfl (aA nd (a_ (a_ (ak (aQ 3 rfl (aA nd ?_)))))));have gB:=ar au;subst gB;refine ak ⟨rfl,(((l.length:Nat):Int),U (vr+1),vr,l),[(990,some 26),(3,some 3),(1000,some 1000),(1001,some 1001),(2,some 2)],⟨rfl,rfl,rfl,rfl,rfl,⟨ag _ rfl,ag _ rfl,trivial⟩,⟨⟨_,rfl,rfl,rfl,aD (enc:=bC) l (fun _=>rfl)⟩,⟨_,rfl,rfl,rfl,.inr ⟨⟨⟨ag _ rfl,⟨rfl,rfl,rfl⟩,trivial⟩,trivial⟩,⟨rfl,trivial⟩⟩⟩,trivial⟩⟩,cj⟩
    ·replace au:=aj au c8;refine Zk (aq 4 rfl ?_);obtain⟨l1,eG,au⟩:=ah au;refine dY bC s3 ([mv]) l1 eG (fun _=>rfl) rfl rfl ab rfl rfl rfl rfl rfl rfl rfl rfl rfl rfl rfl rfl rfl rfl rfl rfl rfl ?_;refine af 2 rfl (aQ 4 rfl (aA nd (a_ (a_ (ak (aQ 3 rfl (aA nd ?_)))))));have ik:=ar au;subst ik;refine ak ⟨rfl,(((l1.length:Nat):Int),U (vr+1),s2,l1),[(990,some 26),(3,some 3),(1000,some 1000),(1001,some 1001),(2,some 2)],⟨rfl,rfl,rfl,rfl,rfl,⟨ag _ rfl,ag _ rfl,trivial⟩,⟨⟨_,rfl,rfl,rfl,aD (enc:=bC) l1 (fun _=>rfl)⟩,⟨_,rfl,rfl,rfl,.inr ⟨⟨⟨ag _ rfl,⟨rfl,rfl,rfl⟩,trivial⟩,trivial⟩,⟨rfl,trivial⟩⟩⟩,trivial⟩⟩,cj⟩
   ·replace au:=aj au c7;refine aa 3 rfl ?_;refine ao (b:=decide (0<gk)) rfl (fun fa=>?_) (fun fa=>?_)
    ·replace au:=ai au fa;refine aQ 4 rfl ?_;obtain⟨l2,eW,au⟩:=ah au;refine dY bC s3 ([(⟨0,0⟩:Sp)]) l2 eW (fun _=>rfl) rfl rfl ab rfl rfl rfl rfl rfl rfl rfl rfl rfl rfl rfl rfl rfl rfl rfl rfl rfl ?_;refine Zr 2 rfl (aA nd (a_ (a_ (ak (aQ 3 rfl (aA nd ?_))))));have gW:=ar au;subst gW;refine ak ⟨rfl,(gk,U (vr+1),s2,l2),[(990,some 38),(3,some 3),(1000,some 1000),(1001,some 1001),(2,some 2)],⟨rfl,rfl,rfl,rfl,rfl,⟨ag _ rfl,ag _ rfl,trivial⟩,⟨⟨_,rfl,rfl,rfl,aD (enc:=bC) l2 (fun _=>rfl)⟩,⟨_,rfl,rfl,rfl,.inr ⟨⟨⟨ag _ rfl,⟨rfl,rfl,rfl⟩,trivial⟩,trivial⟩,⟨rfl,trivial⟩⟩⟩,trivial⟩⟩,cj⟩
    ·replace au:=aj au fa;refine b_ (a_ (a_ (ak (aQ 3 rfl (aA nd ?_)))));have iY:=ar au;subst iY;refine ak ⟨rfl,(gk,U (vr+1),s2,s3),[(990,some 990),(3,some 3),(1000,some 1000),(1001,some 1001),(2,some 2)],⟨rfl,rfl,rfl,rfl,rfl,⟨ag _ rfl,ag _ rfl,trivial⟩,⟨⟨_,rfl,rfl,rfl,aD (enc:=bC) s3 (fun _=>rfl)⟩,⟨_,rfl,rfl,rfl,.inr ⟨⟨⟨ag _ rfl,⟨rfl,rfl,rfl⟩,trivial⟩,trivial⟩,⟨rfl,trivial⟩⟩⟩,trivial⟩⟩,cj⟩
  ·replace au:=aj au c5;refine bP (aY ?_);obtain⟨t,iu,hq⟩:=aZ au;subst hq;have hq:t=_:=cj;subst hq;refine aY (bQ ?_);have gY:=ar iu;refine ak ⟨rfl,(gk,s2,s3),[(990,some 990),(3,some 3),(2,some 2),(1000,some 1000),(1001,some 1001)],⟨rfl,rfl,rfl,rfl,rfl,⟨ag _ rfl,trivial⟩,⟨⟨_,rfl,rfl,rfl,aD (enc:=bC) s3 (fun _=>rfl)⟩,⟨_,rfl,rfl,rfl,.inr ⟨⟨⟨ag _ rfl,⟨rfl,rfl,rfl⟩,trivial⟩,trivial⟩,⟨rfl,trivial⟩⟩⟩,trivial⟩⟩,gY⟩
 ·intro w dx;subst dx;obtain⟨used,s,s1⟩:=w;refine aq 3 rfl ?_;obtain⟨l3,lS,h⟩:=ah h;refine rz bC s1 l3 used lS rfl ab rfl rfl rfl rfl rfl rfl rfl rfl rfl rfl rfl ?_;refine af 2 rfl (aa 2 rfl ?_);refine ed [2] [1000,1001] [(990,some ⟨34,2,l3.map bC⟩)] [(2,some 2),(1000,some 1000),(1001,some 1001)] [] [(2,some ⟨138,2,[.agg [I s,an bC l3]]⟩)] rfl rfl rfl rfl rfl ⟨rfl,by decide,trivial⟩ trivial ⟨⟨_,rfl,rfl,rfl,.inr ⟨⟨⟨ag _ rfl,cV rfl rfl (fun _=>rfl),trivial⟩,trivial⟩,⟨rfl,trivial⟩⟩⟩,trivial⟩ ?_;refine aK ?_;cases h;refine a8 ?_;exact gu [(1000,some 1000),(1001,some 1001)] ab rfl rfl rfl rfl (aB _ rfl) ⟨⟨_,rfl,rfl,rfl,.inl ⟨rfl,aw rfl⟩⟩,⟨_,rfl,rfl,rfl,.inl ⟨rfl,aw rfl⟩⟩,trivial⟩
def C9 (a:b7) (b:b7):Option b7:=
 (β (qG a) (fun vv=>(β (qG b) (fun aR=>(β (GQ vv aR) (fun bv=>some bv))))))
theorem akz (a:b7) (b:b7) (r:b7) (h:C9 a b=some r):Holds Tryz.prog 74 [eM a,eM b] [] (eM r) []:=by
 unfold C9 at h;refine bm Tryz.func74 rfl Tryz.ntmps74 rfl rfl rfl (fun lim=>?_);refine aa 3 rfl (aq 1 rfl ?_);obtain⟨vv,bx,h⟩:=ah h;refine aM BV (C7 a vv bx) rfl rfl rfl rfl rfl rfl rfl ?_;refine Zr 1 rfl ?_;obtain⟨aR,e_,h⟩:=ah h;refine aM BV (C7 b aR e_) rfl rfl rfl rfl rfl rfl rfl ?_;refine Zr 2 rfl ?_;refine aA (fun _=>by kernel_rfl) ?_;refine ak (aq 1 rfl ?_);obtain⟨bv,fx,h⟩:=ah h;refine yD (.agg [I bv.b6,an bC bv.Rows]) [] [(2,some ⟨138,2,[.agg [I vv.b6,an bC vv.Rows]]⟩),(3,some ⟨138,2,[.agg [I aR.b6,an bC aR.Rows]]⟩)] [(1000,some 2),(1001,some 3)] [(2,some 1000),(3,some 1001)] Un (aky vv aR bv fx) rfl rfl rfl rfl rfl trivial ⟨⟨rfl,trivial,⟨⟨rfl,rfl,rfl⟩,⟨rfl,rfl,rfl⟩,trivial⟩⟩,trivial⟩ rfl rfl ⟨⟨_,rfl,rfl,rfl,.inl ⟨rfl,aw rfl⟩⟩,⟨_,rfl,rfl,rfl,.inl ⟨rfl,aw rfl⟩⟩,trivial⟩ rfl rfl ⟨⟨_,rfl,rfl,rfl,.inl ⟨rfl,aw rfl⟩⟩,⟨_,rfl,rfl,rfl,.inl ⟨rfl,aw rfl⟩⟩,trivial⟩ (aB _ rfl) rfl (fun h=>absurd rfl h) ⟨rfl,rfl,trivial⟩ rfl rfl rfl ?_;refine af 1 rfl (aK ?_);exact Zq h rfl rfl rfl
end Go.Proofs.YtccnpbnokndeeaaGreatDoor
end
