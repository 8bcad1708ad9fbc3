/- Texts for the law: A1a. -/
import Derived.Test.YtccnpbnokndeeaaGreatDoorT3
noncomputable section
open Option renaming bind→β
open Sum renaming inr→ι,inl→κ
namespace Go.Proofs.YtccnpbnokndeeaaGreatDoor
open Go Go.Ab
set_option maxRecDepth 20000
set_option maxHeartbeats 1000000
def Gm (w:nK) (p:dR):nM:=
 (⟨w.gz,w.dm,w.dT,p,w.dW,w.gy⟩:nM)
theorem ajs (w:nK) (p:dR) (r:nM) (h:Gm w p=r):Holds Tryz.prog 65 [J4 w,oK p] [] (J6 r) []:=by
 unfold Gm at h;refine bm Tryz.func65 rfl Tryz.ntmps65 rfl rfl rfl (fun lim=>?_);refine aa 3 rfl (aa 13 rfl (aK ?_));have e1:=h;subst e1;refine a8 ?_;refine bp ab rfl rfl ?_;exact(aB _ rfl)
def Cj (g:nM) (lr:Int) (i:Int):Option ((Int×Int)⊕Int):=
 (bif(decide (i<((g.gz.length:Nat):Int))) then(bif(decide (i<30)) then(β (aC g.gz i) (fun e=>some (κ ((min 20000 (U (lr+(max 0 (min 20000 e.aT))))),U (i+1))))) else some (ι lr)) else some (ι lr))
def y7 (g:nM) (y8:Int) (i1:Int):Option ((Int×Int)⊕Int):=
 (bif(decide (i1<((g.dT.length:Nat):Int))) then(β (aC g.dT i1) (fun e1=>some (κ ((max y8 (min 10 ((e1.bG.length:Nat):Int))),U (i1+1))))) else some (ι y8))
def Gn (g:nM):Option Int:=
 (β ((bb (fun q=>Cj g q.1 q.2) (0,0)):Option Int) (fun pH=>(β ((bb (fun q=>y7 g q.1 q.2) (1,0)):Option Int) (fun Vr=>(β ((bif(decide (0<g.dW.Step)) then(bif(g.dW.Step !=0) then some (U (1+(U (Int.tdiv pH g.dW.Step)))) else none) else some 1):Option Int) (fun bZ=>some (U ((U ((U (bZ*Vr))*(U (1+(min 30 ((g.gz.length:Nat):Int))))))*(U (1+(min 140 ((g.Pattern.br.length:Nat):Int))))))))))))
theorem ajt (g:nM) (r:Int) (h:Gn g=some r):Holds Tryz.prog 119 [J6 g] [] (I r) []:=by
 unfold Gn at h;refine bm Tryz.func119 rfl Tryz.ntmps119 rfl rfl rfl (fun lim=>?_);refine aa 2 rfl (aa 2 rfl ?_);obtain⟨y,bw,h⟩:=ah h;refine bJ (X:=Int) [1,4] [1] (fun w=>[(3,I w)]) (fun w=>[]) (fun w=>w=y) rfl rfl ?_ ?_
 ·skip;refine aa 1 rfl (a6 ?_);refine bY (X:=Int×Int) (Y:=Int) [1,4] [1] (fun q=>[(3,I q.1),(5,I q.2)]) (fun q=>[]) (fun q=>Cj g q.1 q.2) (0,0) [(1,some 1)] bw ⟨rfl,rfl,rfl,rfl,rfl,⟨ag _ rfl,ag _ rfl,trivial⟩,trivial⟩ (fun x vR vz au cj=>?_);obtain⟨lr,i⟩:=x;change Cj g lr i=_ at au;unfold Cj at au;refine ay (aq 3 rfl ?_);refine bg cy g.gz ab rfl rfl rfl rfl rfl rfl ?_;refine Zr 2 rfl ?_;refine bd rfl rfl rfl (fun g5=>?_) (fun g5=>?_)
  ·rw [g5];replace au:=ai au g5;refine af 3 rfl ?_;refine ao (b:=decide (i<30)) rfl (fun c6=>?_) (fun c6=>?_)
   ·replace au:=ai au c6;refine Zk (ay (a6 (aQ 4 rfl ?_)));obtain⟨e,eU,au⟩:=ah au;refine bn cy g.gz i e eU ab rfl rfl rfl rfl rfl rfl rfl rfl rfl ?_;refine Zr 7 rfl (aA nd (a_ (ak (aQ 3 rfl (aA nd ?_)))));have e8:=ar au;subst e8;refine ak ⟨rfl,((min 20000 (U (lr+(max 0 (min 20000 e.aT))))),U (i+1)),[(1,some 1)],⟨rfl,rfl,rfl,rfl,rfl,⟨ag _ rfl,ag _ rfl,trivial⟩,trivial⟩,cj⟩
   ·replace au:=aj au c6;refine bP (aY ?_);obtain⟨t,gR,hq⟩:=aZ au;subst hq;have hq:t=_:=cj;subst hq;refine aY (bQ ?_);have gB:=ar gR;refine ak ⟨rfl,lr,[(1,some 1)],⟨rfl,rfl,rfl,rfl,rfl,⟨ag _ rfl,trivial⟩,trivial⟩,gB⟩
  ·rw [g5];replace au:=aj au g5;refine af 3 rfl ?_;refine ao rfl Zx (fun aL=>?_);clear aL;refine bP (aY ?_);obtain⟨t1,kK,hq⟩:=aZ au;subst hq;have hq:t1=_:=cj;subst hq;refine aY (bQ ?_);have ik:=ar kK;refine ak ⟨rfl,lr,[(1,some 1)],⟨rfl,rfl,rfl,rfl,rfl,⟨ag _ rfl,trivial⟩,trivial⟩,ik⟩
 ·intro pH dx;subst dx;obtain⟨y1,iV,h⟩:=ah h;refine bJ (X:=Int) [1,3] [1] (fun w1=>[(4,I w1)]) (fun w1=>[]) (fun w1=>w1=y1) rfl rfl ?_ ?_
  ·skip;refine aa 1 rfl (a6 ?_);refine bY (X:=Int×Int) (Y:=Int) [1,3] [1] (fun q=>[(4,I q.1),(6,I q.2)]) (fun q=>[]) (fun q=>y7 g q.1 q.2) (1,0) [(1,some 1)] iV ⟨rfl,rfl,rfl,rfl,rfl,⟨ag _ rfl,ag _ rfl,trivial⟩,trivial⟩ (fun x1 jY gS bO jI=>?_);obtain⟨y8,i1⟩:=x1;change y7 g y8 i1=_ at bO;unfold y7 at bO;refine ay (aq 3 rfl ?_);refine bg cL g.dT ab rfl rfl rfl rfl rfl rfl ?_;refine af 1 rfl ?_;refine ao (b:=decide (i1<((g.dT.length:Nat):Int))) rfl (fun dS=>?_) (fun dS=>?_)
   ·replace bO:=ai bO dS;refine Zk (ay (a6 (aQ 4 rfl ?_)));obtain⟨e1,h9,bO⟩:=ah bO;refine bn cL g.dT i1 e1 h9 ab rfl rfl rfl rfl rfl rfl rfl rfl rfl ?_;refine Zr 2 rfl ?_;refine bg I e1.bG ab rfl rfl rfl rfl rfl rfl ?_;refine Zr 3 rfl (aA nd (a_ (ak (aQ 3 rfl (aA nd ?_)))));have kL:=ar bO;subst kL;refine ak ⟨rfl,((max y8 (min 10 ((e1.bG.length:Nat):Int))),U (i1+1)),[(1,some 1)],⟨rfl,rfl,rfl,rfl,rfl,⟨ag _ rfl,ag _ rfl,trivial⟩,trivial⟩,jI⟩
   ·replace bO:=aj bO dS;refine bP (aY ?_);obtain⟨t2,iW,hq⟩:=aZ bO;subst hq;have hq:t2=_:=jI;subst hq;refine aY (bQ ?_);have il:=ar iW;refine ak ⟨rfl,y8,[(1,some 1)],⟨rfl,rfl,rfl,rfl,rfl,⟨ag _ rfl,trivial⟩,trivial⟩,il⟩
  ·intro Vr qd;subst qd;refine aa 1 rfl ?_;obtain⟨y2,tX,h⟩:=ah h;refine bJ (X:=Int) [1,4] [1] (fun w2=>[(7,I w2)]) (fun w2=>[]) (fun w2=>w2=y2) rfl rfl ?_ ?_
   ·skip;refine aa 4 rfl ?_;refine ao (b:=decide (0<g.dW.Step)) rfl (fun mS=>?_) (fun mS=>?_)
    ·replace tX:=ai tX mS;refine aQ 4 rfl ?_;obtain⟨aju,tX⟩:=gw tX;refine FL pH g.dW.Step aju rfl rfl rfl rfl rfl ?_;refine Zr 2 rfl (aA nd ?_);have mT:=ar tX;refine ak ⟨rfl,U (1+(U (Int.tdiv pH g.dW.Step))),[(1,some 1)],⟨rfl,rfl,rfl,rfl,rfl,⟨ag _ rfl,trivial⟩,trivial⟩,mT⟩
    ·replace tX:=aj tX mS;refine b_ ?_;have im:=ar tX;refine ak ⟨rfl,1,[(1,some 1)],⟨rfl,rfl,rfl,rfl,rfl,⟨ag _ rfl,trivial⟩,trivial⟩,im⟩
   ·intro bZ ajv;subst ajv;refine aq 5 rfl ?_;refine bg cy g.gz ab rfl rfl rfl rfl rfl rfl ?_;refine Zr 6 rfl ?_;refine bg aX g.Pattern.br ab rfl rfl rfl rfl rfl rfl ?_;refine af 4 rfl (aK ?_);exact Zq h rfl rfl rfl
def Ck (g:nM) (i:Int):Option (Int⊕(Bool⊕Unit)):=
 (bif(decide (i<((g.gz.length:Nat):Int))) then(β (aC g.gz i) (fun e=>(bif(decide (130<((e.cn.Rows.length:Nat):Int))) then some (ι (κ false)) else some (κ (U (i+1)))))) else some (ι (ι ())))
def y9 (g:nM) (i1:Int):Option (Int⊕(Bool⊕Unit)):=
 (bif(decide (i1<((g.dT.length:Nat):Int))) then(β (aC g.dT i1) (fun e1=>(bif(decide (10<((e1.bG.length:Nat):Int))) then some (ι (κ false)) else(β (aC g.dT i1) (fun e2=>(bif(decide (10<((e2.dB.length:Nat):Int))) then some (ι (κ false)) else(β (aC g.dT i1) (fun e3=>(bif(decide (100<((e3.Name.size:Nat):Int))) then some (ι (κ false)) else some (κ (U (i1+1)))))))))))) else some (ι (ι ())))
def Gp (g:nM):Option Bool:=
 (bif(decide (30<((g.gz.length:Nat):Int))) then some false else(bif(decide (70<((g.dm.length:Nat):Int))) then some false else(bif(decide (20<((g.dT.length:Nat):Int))) then some false else(bif(decide (140<((g.Pattern.br.length:Nat):Int))) then some false else(β (Gn g) (fun wv=>(bif(decide (200000<wv)) then some false else(β ((bb (fun q=>Ck g q) 0):Option (Bool⊕Unit)) (Sum.elim (fun q=>some q) (fun _=>(β ((bb (fun q=>y9 g q) 0):Option (Bool⊕Unit)) (Sum.elim (fun q=>some q) (fun _=>some true)))))))))))))
theorem ajw (g:nM) (r:Bool) (h:Gp g=some r):Holds Tryz.prog 64 [J6 g] [] (B r) []:=by
 unfold Gp at h;refine bm Tryz.func64 rfl Tryz.ntmps64 rfl rfl rfl (fun lim=>?_);refine aa 2 rfl (ay (aq 2 rfl ?_));refine bg cy g.gz ab rfl rfl rfl rfl rfl rfl ?_;refine Zr 2 rfl ?_;refine bd rfl rfl rfl (fun g1=>?_) (fun g1=>?_)
 ·rw [g1];replace h:=ai h g1;refine af 23 rfl ?_;refine ao rfl (fun aL=>?_) Zx;clear aL;refine aa 1 rfl (Ze ?_);exact Zq h rfl rfl rfl
 ·rw [g1];replace h:=aj h g1;refine Zr 2 rfl ?_;refine bg cq g.dm ab rfl rfl rfl rfl rfl rfl ?_;refine Zr 3 rfl ?_;refine bd rfl rfl rfl (fun g3=>?_) (fun g3=>?_)
  ·rw [g3];replace h:=ai h g3;refine af 17 rfl ?_;refine ao rfl (fun aL=>?_) Zx;clear aL;refine aa 1 rfl (Ze ?_);exact Zq h rfl rfl rfl
  ·rw [g3];replace h:=aj h g3;refine Zr 2 rfl ?_;refine bg cL g.dT ab rfl rfl rfl rfl rfl rfl ?_;refine Zr 3 rfl ?_;refine bd rfl rfl rfl (fun g5=>?_) (fun g5=>?_)
   ·rw [g5];replace h:=ai h g5;refine af 11 rfl ?_;refine ao rfl (fun aL=>?_) Zx;clear aL;refine aa 1 rfl (Ze ?_);exact Zq h rfl rfl rfl
   ·rw [g5];replace h:=aj h g5;refine Zr 3 rfl ?_;refine bg aX g.Pattern.br ab rfl rfl rfl rfl rfl rfl ?_;refine Zr 3 rfl ?_;refine bd rfl rfl rfl (fun g7=>?_) (fun g7=>?_)
    ·rw [g7];replace h:=ai h g7;refine af 4 rfl ?_;refine ao rfl (fun aL=>?_) Zx;clear aL;refine aa 1 rfl (Ze ?_);exact Zq h rfl rfl rfl
    ·rw [g7];replace h:=aj h g7;refine Zr 1 rfl ?_;obtain⟨wv,eN,h⟩:=ah h;refine aM agF (ajt g wv eN) rfl rfl rfl rfl rfl rfl rfl ?_;refine af 2 rfl ?_;refine ao (b:=decide (200000<wv)) rfl (fun db=>?_) (fun db=>?_)
     ·replace h:=ai h db;refine aa 1 rfl (Ze ?_);exact Zq h rfl rfl rfl
     ·replace h:=aj h db;refine Zk ?_;obtain⟨y,KH,h⟩:=ah h;refine bJ (X:=Unit) [1] [1] (fun _=>[]) (fun _=>[]) (fun w=>ι w=y) rfl rfl ?_ ?_
      ·skip;refine aa 1 rfl (a6 ?_);refine bY (X:=Int) (Y:=Bool⊕Unit) [1] [1] (fun q=>[(3,I q)]) (fun q=>[]) (fun q=>Ck g q) 0 [(1,some 1)] KH ⟨rfl,rfl,rfl,rfl,rfl,⟨ag _ rfl,trivial⟩,trivial⟩ (fun i vR vz gK y_=>?_);change Ck g i=_ at gK;unfold Ck at gK;refine ay (aq 3 rfl ?_);refine bg cy g.gz ab rfl rfl rfl rfl rfl rfl ?_;refine af 1 rfl ?_;refine ao (b:=decide (i<((g.gz.length:Nat):Int))) rfl (fun eF=>?_) (fun eF=>?_)
       ·replace gK:=ai gK eF;refine Zk (ay (a6 (aq 3 rfl ?_)));obtain⟨e,gT,gK⟩:=ah gK;refine bn cy g.gz i e gT ab rfl rfl rfl rfl rfl rfl rfl rfl rfl ?_;refine Zr 3 rfl ?_;refine bg bC e.cn.Rows ab rfl rfl rfl rfl rfl rfl ?_;refine af 1 rfl ?_;refine ao (b:=decide (130<((e.cn.Rows.length:Nat):Int))) rfl (fun jo=>?_) (fun jo=>?_)
        ·replace gK:=ai gK jo;refine aa 1 rfl (aK (aW (aF ?_)));obtain⟨t,jZ,hq⟩:=aZ gK;subst hq;have hq:t=_:=y_;subst hq;refine aF (aW ?_);obtain⟨t1,iW,hq⟩:=bT jZ;subst hq;have hq:=bL h;replace hq:=ar hq;subst hq;refine aF ?_;exact Zq iW rfl rfl rfl
        ·replace gK:=aj gK jo;refine b_ (a_ (ak (aQ 3 rfl (aA nd ?_))));have gU:=ar gK;subst gU;refine ak ⟨rfl,U (i+1),[(1,some 1)],⟨rfl,rfl,rfl,rfl,rfl,⟨ag _ rfl,trivial⟩,trivial⟩,y_⟩
       ·replace gK:=aj gK eF;refine bP (aY ?_);obtain⟨t2,kM,hq⟩:=aZ gK;subst hq;have hq:t2=_:=y_;subst hq;refine aY (bQ ?_);have fU:=ar kM;refine ak ⟨rfl,(),[(1,some 1)],⟨rfl,rfl,rfl,rfl,rfl,trivial,trivial⟩,fU⟩
      ·intro w KI;subst KI;replace h:=dI h;obtain⟨y1,KJ,h⟩:=ah h;refine bJ (X:=Unit) [] [] (fun _=>[]) (fun _=>[]) (fun w1=>ι w1=y1) rfl rfl ?_ ?_
       ·skip;refine aa 1 rfl (a6 ?_);refine bY (X:=Int) (Y:=Bool⊕Unit) [1] [1] (fun q=>[(4,I q)]) (fun q=>[]) (fun q=>y9 g q) 0 [(1,some 1)] KJ ⟨rfl,rfl,rfl,rfl,rfl,⟨ag _ rfl,trivial⟩,trivial⟩ (fun i1 jY gS cH mh=>?_);change y9 g i1=_ at cH;unfold y9 at cH;refine ay (aq 3 rfl ?_);refine bg cL g.dT ab rfl rfl rfl rfl rfl rfl ?_;refine af 1 rfl ?_;refine ao (b:=decide (i1<((g.dT.length:Nat):Int))) rfl (fun kN=>?_) (fun kN=>?_)
        ·replace cH:=ai cH kN;refine Zk (ay (a6 (aq 3 rfl ?_)));obtain⟨e1,nO,cH⟩:=ah cH;refine bn cL g.dT i1 e1 nO ab rfl rfl rfl rfl rfl rfl rfl rfl rfl ?_;refine Zr 2 rfl ?_;refine bg I e1.bG ab rfl rfl rfl rfl rfl rfl ?_;refine Zr 2 rfl ?_;refine bd rfl rfl rfl (fun qe=>?_) (fun qe=>?_)
         ·rw [qe];replace cH:=ai cH qe;refine af 19 rfl ?_;refine ao rfl (fun aL=>?_) Zx;clear aL;refine aa 1 rfl (aK (aW (aF ?_)));obtain⟨t3,vZ,hq⟩:=aZ cH;subst hq;have hq:t3=_:=mh;subst hq;refine aF (aW ?_);obtain⟨t4,qf,hq⟩:=bT vZ;subst hq;have hq:=bL h;replace hq:=ar hq;subst hq;refine aF ?_;exact Zq qf rfl rfl rfl
         ·rw [qe];replace cH:=aj cH qe;refine Zr 3 rfl ?_;obtain⟨e2,mi,cH⟩:=ah cH;refine bn cL g.dT i1 e2 mi ab rfl rfl rfl rfl rfl rfl rfl rfl rfl ?_;refine Zr 2 rfl ?_;refine bg I e2.dB ab rfl rfl rfl rfl rfl rfl ?_;refine Zr 3 rfl ?_;refine bd rfl rfl rfl (fun qg=>?_) (fun qg=>?_)
          ·rw [qg];replace cH:=ai cH qg;refine af 9 rfl ?_;refine ao rfl (fun aL=>?_) Zx;clear aL;refine aa 1 rfl (aK (aW (aF ?_)));obtain⟨t5,qh,hq⟩:=aZ cH;subst hq;have hq:t5=_:=mh;subst hq;refine aF (aW ?_);obtain⟨t6,mU,hq⟩:=bT qh;subst hq;have hq:=bL h;replace hq:=ar hq;subst hq;refine aF ?_;exact Zq mU rfl rfl rfl
          ·rw [qg];replace cH:=aj cH qg;refine Zr 3 rfl ?_;obtain⟨e3,Cl,cH⟩:=ah cH;refine bn cL g.dT i1 e3 Cl ab rfl rfl rfl rfl rfl rfl rfl rfl rfl ?_;refine af 5 rfl ?_;refine ao (b:=decide (100<((e3.Name.size:Nat):Int))) rfl (fun v7=>?_) (fun v7=>?_)
           ·replace cH:=ai cH v7;refine aa 1 rfl (aK (aW (aF ?_)));obtain⟨t7,qi,hq⟩:=aZ cH;subst hq;have hq:t7=_:=mh;subst hq;refine aF (aW ?_);obtain⟨t8,oQ,hq⟩:=bT qi;subst hq;have hq:=bL h;replace hq:=ar hq;subst hq;refine aF ?_;exact Zq oQ rfl rfl rfl
           ·replace cH:=aj cH v7;refine b_ (a_ (ak (aQ 3 rfl (aA nd ?_))));have v8:=ar cH;subst v8;refine ak ⟨rfl,U (i1+1),[(1,some 1)],⟨rfl,rfl,rfl,rfl,rfl,⟨ag _ rfl,trivial⟩,trivial⟩,mh⟩
        ·replace cH:=aj cH kN;refine bP (aY ?_);obtain⟨t9,v_,hq⟩:=aZ cH;subst hq;have hq:t9=_:=mh;subst hq;refine aY (bQ ?_);have qj:=ar v_;refine ak ⟨rfl,(),[],⟨rfl,rfl,rfl,rfl,rfl,trivial,trivial⟩,qj⟩
       ·intro w1 KK;subst KK;replace h:=dI h;refine aa 1 rfl (aK ?_);exact Zq h rfl rfl rfl
def jJ (n:Int):Bool:=
 (bif(decide (n<(-600))) then true else(decide (600<n)))
theorem Vs (n:Int) (r:Bool) (h:jJ n=r):Holds Tryz.prog 158 [I n] [] (B r) []:=by
 unfold jJ at h;refine bm Tryz.func158 rfl Tryz.ntmps158 rfl rfl rfl (fun lim=>?_);refine aa 1 rfl (aq 3 rfl ?_);refine bd rfl rfl rfl (fun g1=>?_) (fun g1=>?_)
 ·rw [g1];replace h:=ai h g1;refine af 4 rfl (aK ?_);have e2:=h;subst e2;refine a8 ?_;refine bp ab rfl rfl ?_;exact(aB _ rfl)
 ·rw [g1];replace h:=aj h g1;refine af 4 rfl (aK ?_);have e3:=h;subst e3;refine a8 ?_;refine bp ab rfl rfl ?_;exact(aB _ rfl)
def lJ (s:Sp):Bool:=
 (decide (s.b≤s.a))
theorem Gq (s:Sp) (r:Bool) (h:lJ s=r):Holds Tryz.prog 159 [bC s] [] (B r) []:=by
 unfold lJ at h;refine bm Tryz.func159 rfl Tryz.ntmps159 rfl rfl rfl (fun lim=>?_);refine aa 2 rfl (aa 6 rfl (aK ?_));have e1:=h;subst e1;refine a8 ?_;refine bp ab rfl rfl ?_;exact(aB _ rfl)
theorem Vt:lI Tryz.prog rk 34=true:=by kernel_rfl
theorem Vu:(Tryz.prog).eqGuardType (Tryz.prog).depth 34=false:=by kernel_rfl
def rA (s:b7) (i:Int):Option (Int⊕(Int⊕Unit)):=
 (bif(decide (i<((s.Rows.length:Nat):Int))) then(β (aC s.Rows i) (fun e=>(bif(jJ e.a) then some (ι (κ 9)) else(β (aC s.Rows i) (fun e1=>(bif(jJ e1.b) then some (ι (κ 9)) else some (κ (U (i+1))))))))) else some (ι (ι ())))
def rB (s:b7) (i1:Int):Option (Int⊕(Int⊕Unit)):=
 (bif(decide (i1<((s.Rows.length:Nat):Int))) then(β (aC s.Rows i1) (fun e4=>(bif(lJ e4) then(β (aC s.Rows i1) (fun e5=>(bif(!(gx bC e5 (⟨0,0⟩:Sp))) then some (ι (κ 19)) else some (κ (U (i1+1)))))) else some (κ (U (i1+1)))))) else some (ι (ι ())))
def oR (s:b7):Option Int:=
 (bif(decide (120<((s.Rows.length:Nat):Int))) then some 4 else(bif(decide (s.b6<(-60))) then some 9 else(bif(decide ((U (60 -((s.Rows.length:Nat):Int)))<s.b6)) then some 9 else(β ((bb (fun q=>rA s q) 0):Option (Int⊕Unit)) (Sum.elim (fun q=>some q) (fun _=>(bif(((s.Rows.length:Nat):Int)==0) then(bif(s.b6 !=0) then some 19 else some 0) else(β (aC s.Rows 0) (fun e2=>(bif(lJ e2) then some 19 else(β (aC s.Rows (U (((s.Rows.length:Nat):Int) -1))) (fun e3=>(bif(lJ e3) then some 19 else(β ((bb (fun q=>rB s q) 0):Option (Int⊕Unit)) (Sum.elim (fun q=>some q) (fun _=>some 0))))))))))))))))
theorem Vv (s:b7) (r:Int) (h:oR s=some r):Holds Tryz.prog 120 [eM s] [] (I r) []:=by
 unfold oR at h;refine bm Tryz.func120 rfl Tryz.ntmps120 rfl rfl rfl (fun lim=>?_);refine aa 2 rfl (aq 2 rfl ?_);refine bg bC s.Rows ab rfl rfl rfl rfl rfl rfl ?_;refine af 1 rfl (ay (aa 2 rfl ?_));refine ao (b:=decide (120<((s.Rows.length:Nat):Int))) rfl (fun c1=>?_) (fun c1=>?_)
 ·replace h:=ai h c1;refine aa 1 rfl (Ze ?_);exact Zq h rfl rfl rfl
 ·replace h:=aj h c1;refine Zk (ay (aq 4 rfl ?_));refine bd rfl rfl rfl (fun g3=>?_) (fun g3=>?_)
  ·rw [g3];replace h:=ai h g3;refine af 6 rfl ?_;refine ao rfl (fun aL=>?_) Zx;clear aL;refine aa 1 rfl (Ze ?_);exact Zq h rfl rfl rfl
  ·rw [g3];replace h:=aj h g3;refine af 6 rfl ?_;refine ao (b:=decide ((U (60 -((s.Rows.length:Nat):Int)))<s.b6)) rfl (fun c5=>?_) (fun c5=>?_)
   ·replace h:=ai h c5;refine aa 1 rfl (Ze ?_);exact Zq h rfl rfl rfl
   ·replace h:=aj h c5;refine Zk ?_;obtain⟨y,lK,h⟩:=ah h;refine bJ (X:=Unit) [1,3] [1] (fun _=>[]) (fun _=>[]) (fun w=>ι w=y) rfl rfl ?_ ?_
    ·skip;refine aa 1 rfl (a6 ?_);refine bY (X:=Int) (Y:=Int⊕Unit) [1,3] [1] (fun q=>[(4,I q)]) (fun q=>[]) (fun q=>rA s q) 0 [(1,some 1)] lK ⟨rfl,rfl,rfl,rfl,rfl,⟨ag _ rfl,trivial⟩,trivial⟩ (fun i vR vz cD kO=>?_);change rA s i=_ at cD;unfold rA at cD;refine ay (aa 3 rfl ?_);refine ao (b:=decide (i<((s.Rows.length:Nat):Int))) rfl (fun cW=>?_) (fun cW=>?_)
     ·replace cD:=ai cD cW;refine Zk (ay (a6 (aq 3 rfl ?_)));obtain⟨e,dZ,cD⟩:=ah cD;refine bn bC s.Rows i e dZ ab rfl rfl rfl rfl rfl rfl rfl rfl rfl ?_;refine Zr 2 rfl ?_;refine aM Uu (Vs e.a _ rfl) rfl rfl rfl rfl rfl rfl rfl ?_;refine Zr 1 rfl ?_;refine bd rfl rfl rfl (fun g13=>?_) (fun g13=>?_)
      ·rw [g13];replace cD:=ai cD g13;refine af 8 rfl ?_;refine ao rfl (fun aL=>?_) Zx;clear aL;refine aa 1 rfl (aK (aW (aF ?_)));obtain⟨t,gV,hq⟩:=aZ cD;subst hq;have hq:t=_:=kO;subst hq;refine aF (aW ?_);obtain⟨t1,lL,hq⟩:=bT gV;subst hq;have hq:=bL h;replace hq:=ar hq;subst hq;refine aF ?_;exact Zq lL rfl rfl rfl
      ·rw [g13];replace cD:=aj cD g13;refine Zr 3 rfl ?_;obtain⟨e1,gT,cD⟩:=ah cD;refine bn bC s.Rows i e1 gT ab rfl rfl rfl rfl rfl rfl rfl rfl rfl ?_;refine Zr 2 rfl ?_;refine aM Uu (Vs e1.b _ rfl) rfl rfl rfl rfl rfl rfl rfl ?_;refine af 1 rfl ?_;refine ao (b:=jJ e1.b) rfl (fun jo=>?_) (fun jo=>?_)
       ·replace cD:=ai cD jo;refine aa 1 rfl (aK (aW (aF ?_)));obtain⟨t2,jZ,hq⟩:=aZ cD;subst hq;have hq:t2=_:=kO;subst hq;refine aF (aW ?_);obtain⟨t3,iW,hq⟩:=bT jZ;subst hq;have hq:=bL h;replace hq:=ar hq;subst hq;refine aF ?_;exact Zq iW rfl rfl rfl
       ·replace cD:=aj cD jo;refine b_ (a_ (ak (aQ 3 rfl (aA nd ?_))));have gU:=ar cD;subst gU;refine ak ⟨rfl,U (i+1),[(1,some 1)],⟨rfl,rfl,rfl,rfl,rfl,⟨ag _ rfl,trivial⟩,trivial⟩,kO⟩
     ·replace cD:=aj cD cW;refine bP (aY ?_);obtain⟨t4,kM,hq⟩:=aZ cD;subst hq;have hq:t4=_:=kO;subst hq;refine aY (bQ ?_);have fU:=ar kM;refine ak ⟨rfl,(),[(1,some 1)],⟨rfl,rfl,rfl,rfl,rfl,trivial,trivial⟩,fU⟩
    ·intro w sC;subst sC;replace h:=dI h;refine ay (aa 2 rfl ?_);refine ao (b:=((s.Rows.length:Nat):Int)==0) rfl (fun gC=>?_) (fun gC=>?_)
     ·replace h:=ai h gC;refine ay (aa 3 rfl ?_);refine ao (b:=s.b6 !=0) rfl (fun mV=>?_) (fun mV=>?_)
      ·replace h:=ai h mV;refine aa 1 rfl (Ze (aF ?_));exact Zq h rfl rfl rfl
      ·replace h:=aj h mV;refine Zk (aa 1 rfl (Ze ?_));exact Zq h rfl rfl rfl
     ·replace h:=aj h gC;refine Zk (ay (aq 2 rfl ?_));obtain⟨e2,rC,h⟩:=ah h;refine bn bC s.Rows 0 e2 rC ab rfl rfl rfl rfl rfl rfl rfl rfl rfl ?_;refine Zr 1 rfl ?_;refine aM F2 (Gq e2 _ rfl) rfl rfl rfl rfl rfl rfl rfl ?_;refine Zr 1 rfl ?_;refine bd rfl rfl rfl (fun Cm=>?_) (fun Cm=>?_)
      ·rw [Cm];replace h:=ai h Cm;refine af 8 rfl ?_;refine ao rfl (fun aL=>?_) Zx;clear aL;refine aa 1 rfl (Ze ?_);exact Zq h rfl rfl rfl
      ·rw [Cm];replace h:=aj h Cm;refine Zr 4 rfl ?_;obtain⟨e3,qk,h⟩:=ah h;refine bn bC s.Rows (U (((s.Rows.length:Nat):Int) -1)) e3 qk ab rfl rfl rfl rfl rfl rfl rfl rfl rfl ?_;refine Zr 1 rfl ?_;refine aM F2 (Gq e3 _ rfl) rfl rfl rfl rfl rfl rfl rfl ?_;refine af 1 rfl ?_;refine ao (b:=lJ e3) rfl (fun v'=>?_) (fun v'=>?_)
       ·replace h:=ai h v';refine aa 1 rfl (Ze ?_);exact Zq h rfl rfl rfl
       ·replace h:=aj h v';refine Zk ?_;obtain⟨y1,rD,h⟩:=ah h;refine bJ (X:=Unit) [] [] (fun _=>[]) (fun _=>[]) (fun w1=>ι w1=y1) rfl rfl ?_ ?_
        ·skip;refine aa 1 rfl (a6 ?_);refine bY (X:=Int) (Y:=Int⊕Unit) [1,3] [1] (fun q=>[(5,I q)]) (fun q=>[]) (fun q=>rB s q) 0 [(1,some 1)] rD ⟨rfl,rfl,rfl,rfl,rfl,⟨ag _ rfl,trivial⟩,trivial⟩ (fun i1 jY gS jK Gr=>?_);change rB s i1=_ at jK;unfold rB at jK;refine ay (aa 3 rfl ?_);refine ao (b:=decide (i1<((s.Rows.length:Nat):Int))) rfl (fun KL=>?_) (fun KL=>?_)
         ·replace jK:=ai jK KL;refine Zk (ay (a6 (aq 3 rfl ?_)));obtain⟨e4,Cl,jK⟩:=ah jK;refine bn bC s.Rows i1 e4 Cl ab rfl rfl rfl rfl rfl rfl rfl rfl rfl ?_;refine Zr 1 rfl ?_;refine aM F2 (Gq e4 _ rfl) rfl rfl rfl rfl rfl rfl rfl ?_;refine Zr 1 rfl ?_;refine bd rfl rfl rfl (fun ql=>?_) (fun ql=>?_)
          ·rw [ql];replace jK:=ai jK ql;refine Zr 3 rfl ?_;obtain⟨e5,KM,jK⟩:=ah jK;refine bn bC s.Rows i1 e5 KM ab rfl rfl rfl rfl rfl rfl rfl rfl rfl ?_;refine Zr 2 rfl ?_;refine eL rfl (tL rk rfl Vt Vu (by decide) rfl rfl rfl rfl rfl) rfl rfl rfl ?_;refine af 1 rfl ?_;refine ao (b:=!(gx bC e5 (⟨0,0⟩:Sp))) rfl (fun KN=>?_) (fun KN=>?_)
           ·replace jK:=ai jK KN;refine aa 1 rfl (aK (aW (aF ?_)));obtain⟨t5,wc,hq⟩:=aZ jK;subst hq;have hq:t5=_:=Gr;subst hq;refine aF (aW ?_);obtain⟨t6,KO,hq⟩:=bT wc;subst hq;have hq:=bL h;replace hq:=ar hq;subst hq;refine aF ?_;exact Zq KO rfl rfl rfl
           ·replace jK:=aj jK KN;refine b_ (a_ (ak (aQ 3 rfl (aA nd ?_))));have qj:=ar jK;subst qj;refine ak ⟨rfl,U (i1+1),[(1,some 1)],⟨rfl,rfl,rfl,rfl,rfl,⟨ag _ rfl,trivial⟩,trivial⟩,Gr⟩
          ·rw [ql];replace jK:=aj jK ql;refine af 8 rfl ?_;refine ao rfl Zx (fun aL=>?_);clear aL;refine b_ (a_ (ak (aQ 3 rfl (aA nd ?_))));have Cn:=ar jK;subst Cn;refine ak ⟨rfl,U (i1+1),[(1,some 1)],⟨rfl,rfl,rfl,rfl,rfl,⟨ag _ rfl,trivial⟩,trivial⟩,Gr⟩
         ·replace jK:=aj jK KL;refine bP (aY ?_);obtain⟨t7,ajx,hq⟩:=aZ jK;subst hq;have hq:t7=_:=Gr;subst hq;refine aY (bQ ?_);have KP:=ar ajx;refine ak ⟨rfl,(),[],⟨rfl,rfl,rfl,rfl,rfl,trivial,trivial⟩,KP⟩
        ·intro w1 KQ;subst KQ;replace h:=dI h;refine aa 1 rfl (aK ?_);exact Zq h rfl rfl rfl
def sD (l:List aV) (jq:Int) (i:Int):Option ((Int×Int)⊕(Int⊕Unit)):=
 (bif(decide (i<((l.length:Nat):Int))) then(β (aC l i) (fun e=>(β (oR e.cn) (fun cv=>(bif(cv !=0) then some (ι (κ cv)) else(β (aC l i) (fun e1=>(bif(((e1.cn.Rows.length:Nat):Int)==0) then some (ι (κ 18)) else(β (aC l i) (fun e2=>(bif(decide (e2.aT<1)) then some (ι (κ 9)) else(β (aC l i) (fun e3=>(bif(decide ((U (20000 -jq))<e3.aT)) then some (ι (κ 9)) else(β (aC l i) (fun e4=>some (κ ((U (jq+e4.aT)),U (i+1))))))))))))))))))) else some (ι (ι ())))
def jL (l:List aV):Option Int:=
 (bif(((l.length:Nat):Int)==0) then some 3 else(bif(decide (24<((l.length:Nat):Int))) then some 4 else(β ((bb (fun q=>sD l q.1 q.2) (0,0)):Option (Int⊕Unit)) (Sum.elim (fun q=>some q) (fun _=>some 0)))))
theorem KR (l:List aV) (r:Int) (h:jL l=some r):Holds Tryz.prog 66 [(an cy) l] [] (I r) []:=by
 unfold jL at h;refine bm Tryz.func66 rfl Tryz.ntmps66 rfl rfl rfl (fun lim=>?_);refine aa 1 rfl (ay (aq 1 rfl ?_));refine bg cy l ab rfl rfl rfl rfl rfl rfl ?_;refine af 1 rfl ?_;refine ao (b:=((l.length:Nat):Int)==0) rfl (fun c1=>?_) (fun c1=>?_)
 ·replace h:=ai h c1;refine aa 1 rfl (Ze ?_);exact Zq h rfl rfl rfl
 ·replace h:=aj h c1;refine Zk (ay (aq 1 rfl ?_));refine bg cy l ab rfl rfl rfl rfl rfl rfl ?_;refine af 1 rfl ?_;refine ao (b:=decide (24<((l.length:Nat):Int))) rfl (fun c3=>?_) (fun c3=>?_)
  ·replace h:=ai h c3;refine aa 1 rfl (Ze ?_);exact Zq h rfl rfl rfl
  ·replace h:=aj h c3;refine Zk (aa 1 rfl ?_);obtain⟨y,iX,h⟩:=ah h;refine bJ (X:=Unit) [] [] (fun _=>[]) (fun _=>[]) (fun w=>ι w=y) rfl rfl ?_ ?_
   ·skip;refine aa 1 rfl (a6 ?_);refine bY (X:=Int×Int) (Y:=Int⊕Unit) [0] [] (fun q=>[(3,I q.1),(4,I q.2)]) (fun q=>[]) (fun q=>sD l q.1 q.2) (0,0) [] iX ⟨rfl,rfl,rfl,rfl,rfl,⟨ag _ rfl,ag _ rfl,trivial⟩,trivial⟩ (fun x vR vz aP dC=>?_);obtain⟨jq,i⟩:=x;change sD l jq i=_ at aP;unfold sD at aP;refine ay (aq 2 rfl ?_);refine bg cy l ab rfl rfl rfl rfl rfl rfl ?_;refine af 1 rfl ?_;refine ao (b:=decide (i<((l.length:Nat):Int))) rfl (fun c9=>?_) (fun c9=>?_)
    ·replace aP:=ai aP c9;refine Zk (ay (a6 (ay (aq 2 rfl ?_))));obtain⟨e,eO,aP⟩:=ah aP;refine bn cy l i e eO ab rfl rfl rfl rfl rfl rfl rfl rfl rfl ?_;refine Zr 2 rfl ?_;obtain⟨cv,eG,aP⟩:=ah aP;refine aM Uj (Vv e.cn cv eG) rfl rfl rfl rfl rfl rfl rfl ?_;refine af 1 rfl (aa 2 rfl ?_);refine ao (b:=cv !=0) rfl (fun dn=>?_) (fun dn=>?_)
     ·replace aP:=ai aP dn;refine aa 2 rfl (Ze (aW (aF ?_)));obtain⟨t,j9,hq⟩:=aZ aP;subst hq;have hq:t=_:=dC;subst hq;refine aF (aW ?_);obtain⟨t1,gV,hq⟩:=bT j9;subst hq;have hq:=bL h;replace hq:=ar hq;subst hq;refine aF ?_;exact Zq gV rfl rfl rfl
     ·replace aP:=aj aP dn;refine Zk (ay (aq 2 rfl ?_));obtain⟨e1,mj,aP⟩:=ah aP;refine bn cy l i e1 mj ab rfl rfl rfl rfl rfl rfl rfl rfl rfl ?_;refine Zr 3 rfl ?_;refine bg bC e1.cn.Rows ab rfl rfl rfl rfl rfl rfl ?_;refine af 1 rfl ?_;refine ao (b:=((e1.cn.Rows.length:Nat):Int)==0) rfl (fun dS=>?_) (fun dS=>?_)
      ·replace aP:=ai aP dS;refine aa 1 rfl (Ze (aW (aF ?_)));obtain⟨t2,jr,hq⟩:=aZ aP;subst hq;have hq:t2=_:=dC;subst hq;refine aF (aW ?_);obtain⟨t3,jZ,hq⟩:=bT jr;subst hq;have hq:=bL h;replace hq:=ar hq;subst hq;refine aF ?_;exact Zq jZ rfl rfl rfl
      ·replace aP:=aj aP dS;refine Zk (ay (aq 2 rfl ?_));obtain⟨e2,rE,aP⟩:=ah aP;refine bn cy l i e2 rE ab rfl rfl rfl rfl rfl rfl rfl rfl rfl ?_;refine Zr 4 rfl ?_;refine bd rfl rfl rfl (fun g22=>?_) (fun g22=>?_)
       ·rw [g22];replace aP:=ai aP g22;refine af 9 rfl ?_;refine ao rfl (fun aL=>?_) Zx;clear aL;refine aa 1 rfl (Ze (aW (aF ?_)));obtain⟨t4,kM,hq⟩:=aZ aP;subst hq;have hq:t4=_:=dC;subst hq;refine aF (aW ?_);obtain⟨t5,sE,hq⟩:=bT kM;subst hq;have hq:=bL h;replace hq:=ar hq;subst hq;refine aF ?_;exact Zq sE rfl rfl rfl
       ·rw [g22];replace aP:=aj aP g22;refine Zr 2 rfl ?_;obtain⟨e3,kr,aP⟩:=ah aP;refine bn cy l i e3 kr ab rfl rfl rfl rfl rfl rfl rfl rfl rfl ?_;refine af 6 rfl ?_;refine ao (b:=decide ((U (20000 -jq))<e3.aT)) rfl (fun we=>?_) (fun we=>?_)
        ·replace aP:=ai aP we;refine aa 1 rfl (Ze (aW (aF ?_)));obtain⟨t6,qm,hq⟩:=aZ aP;subst hq;have hq:t6=_:=dC;subst hq;refine aF (aW ?_);obtain⟨t7,qn,hq⟩:=bT qm;subst hq;have hq:=bL h;replace hq:=ar hq;subst hq;refine aF ?_;exact Zq qn rfl rfl rfl
        ·replace aP:=aj aP we;refine Zk (aQ 3 rfl ?_);obtain⟨e4,qo,aP⟩:=ah aP;refine bn cy l i e4 qo ab rfl rfl rfl rfl rfl rfl rfl rfl rfl ?_;refine Zr 4 rfl (aA nd (a_ (ak (aQ 3 rfl (aA nd ?_)))));have qp:=ar aP;subst qp;refine ak ⟨rfl,((U (jq+e4.aT)),U (i+1)),[],⟨rfl,rfl,rfl,rfl,rfl,⟨ag _ rfl,ag _ rfl,trivial⟩,trivial⟩,dC⟩
    ·replace aP:=aj aP c9;refine bP (aY ?_);obtain⟨t8,qf,hq⟩:=aZ aP;subst hq;have hq:t8=_:=dC;subst hq;refine aY (bQ ?_);have sF:=ar qf;refine ak ⟨rfl,(),[],⟨rfl,rfl,rfl,rfl,rfl,trivial,trivial⟩,sF⟩
   ·intro w jt;subst jt;replace h:=dI h;refine aa 1 rfl (aK ?_);exact Zq h rfl rfl rfl
def Co (s:b7):Option b7:=
 (β (oR s) (fun cv=>(bif(cv !=0) then some (⟨0,[]⟩:b7) else some s)))
theorem ajy (s:b7) (r:b7) (h:Co s=some r):Holds Tryz.prog 160 [eM s] [] (eM r) []:=by
 unfold Co at h;refine bm Tryz.func160 rfl Tryz.ntmps160 rfl rfl rfl (fun lim=>?_);refine aa 2 rfl (ay (aq 1 rfl ?_));obtain⟨cv,bx,h⟩:=ah h;refine aM Uj (Vv s cv bx) rfl rfl rfl rfl rfl rfl rfl ?_;refine af 1 rfl ?_;refine ao (b:=cv !=0) rfl (fun c2=>?_) (fun c2=>?_)
 ·replace h:=ai h c2;refine aa 2 rfl (Ze ?_);cases h;refine a8 (bp ab rfl rfl ?_);exact⟨aB _ rfl,cF,trivial⟩
 ·replace h:=aj h c2;refine Zk (aa 2 rfl (aK ?_));exact Zq h rfl rfl rfl
def Gs (vv:b7) (i:Int) (x1:Sp):Option ((Int×Sp)⊕Sp):=
 (bif(decide (i<((vv.Rows.length:Nat):Int))) then(β (aC vv.Rows i) (fun e1=>(bif(!(lJ e1)) then(β (aC vv.Rows i) (fun e2=>(β (aC vv.Rows i) (fun e3=>some (κ ((U (i+1)),(⟨min x1.a e2.a,max x1.b e3.b⟩:Sp))))))) else some (κ ((U (i+1)),x1))))) else some (ι x1))
def Gt (s:b7):Option aJ:=
 (β (Co s) (fun vv=>(bif(((vv.Rows.length:Nat):Int)==0) then some (⟨(⟨0,0⟩:Sp),(⟨0,0⟩:Sp)⟩:aJ) else(β (aC vv.Rows 0) (fun e=>(β ((bb (fun q=>Gs vv q.1 q.2) (0,e)):Option Sp) (fun x=>some (⟨x,(⟨U (10*vv.b6),U (10*(U (vv.b6+((vv.Rows.length:Nat):Int))))⟩:Sp)⟩:aJ))))))))
theorem Vw (s:b7) (r:aJ) (h:Gt s=some r):Holds Tryz.prog 121 [eM s] [] (cP r) []:=by
 unfold Gt at h;refine bm Tryz.func121 rfl Tryz.ntmps121 rfl rfl rfl (fun lim=>?_);refine aa 2 rfl (aq 1 rfl ?_);obtain⟨vv,bx,h⟩:=ah h;refine aM agW (ajy s vv bx) rfl rfl rfl rfl rfl rfl rfl ?_;refine af 1 rfl (ay (aq 2 rfl ?_));refine bg bC vv.Rows ab rfl rfl rfl rfl rfl rfl ?_;refine af 1 rfl ?_;refine ao (b:=((vv.Rows.length:Nat):Int)==0) rfl (fun c2=>?_) (fun c2=>?_)
 ·replace h:=ai h c2;refine aa 2 rfl (Ze ?_);exact Zq h rfl rfl rfl
 ·replace h:=aj h c2;refine Zk (aq 2 rfl ?_);obtain⟨e,dt,h⟩:=ah h;refine bn bC vv.Rows 0 e dt ab rfl rfl rfl rfl rfl rfl rfl rfl rfl ?_;refine af 3 rfl ?_;obtain⟨y,iX,h⟩:=ah h;refine bJ (X:=Sp) [1,2,3] [1,2] (fun w=>[]) (fun w=>[(3,some ⟨34,2,[.agg [I w.a,I w.b]]⟩)]) (fun w=>w=y) rfl rfl ?_ ?_
  ·skip;refine aa 1 rfl (a6 ?_);refine bY (X:=Int×Sp) (Y:=Sp) [1,2,3] [1,2] (fun q=>[(4,I q.1)]) (fun q=>[(3,some ⟨34,2,[.agg [I q.2.a,I q.2.b]]⟩)]) (fun q=>Gs vv q.1 q.2) (0,e) [(3,some 3),(1,some 1),(2,some 2)] iX ⟨rfl,rfl,rfl,rfl,rfl,⟨ag _ rfl,trivial⟩,⟨⟨_,rfl,rfl,rfl,.inl ⟨rfl,aw rfl⟩⟩,trivial⟩⟩ (fun x2 vR vz aP dC=>?_);obtain⟨i,x1⟩:=x2;change Gs vv i x1=_ at aP;unfold Gs at aP;refine ay (aq 3 rfl ?_);refine bg bC vv.Rows ab rfl rfl rfl rfl rfl rfl ?_;refine af 1 rfl ?_;refine ao (b:=decide (i<((vv.Rows.length:Nat):Int))) rfl (fun c9=>?_) (fun c9=>?_)
   ·replace aP:=ai aP c9;refine Zk (ay (a6 (aq 3 rfl ?_)));obtain⟨e1,eO,aP⟩:=ah aP;refine bn bC vv.Rows i e1 eO ab rfl rfl rfl rfl rfl rfl rfl rfl rfl ?_;refine Zr 1 rfl ?_;refine aM F2 (Gq e1 _ rfl) rfl rfl rfl rfl rfl rfl rfl ?_;refine af 1 rfl ?_;refine ao (b:=!(lJ e1)) rfl (fun cW=>?_) (fun cW=>?_)
    ·replace aP:=ai aP cW;refine aQ 5 rfl ?_;obtain⟨e2,dZ,aP⟩:=ah aP;refine bn bC vv.Rows i e2 dZ ab rfl rfl rfl rfl rfl rfl rfl rfl rfl ?_;refine Zr 8 rfl ?_;obtain⟨e3,fV,aP⟩:=ah aP;refine bn bC vv.Rows i e3 fV ab rfl rfl rfl rfl rfl rfl rfl rfl rfl ?_;refine Zr 5 rfl ?_;refine aA (fun _=>by kernel_rfl) ?_;refine a_ (ak (aQ 3 rfl (aA nd ?_)));have ju:=ar aP;subst ju;refine ak ⟨rfl,((U (i+1)),(⟨min x1.a e2.a,max x1.b e3.b⟩:Sp)),[(3,some 3),(1,some 1),(2,some 2)],⟨rfl,rfl,rfl,rfl,rfl,⟨ag _ rfl,trivial⟩,⟨⟨_,rfl,rfl,rfl,.inl ⟨rfl,aw rfl⟩⟩,trivial⟩⟩,dC⟩
    ·replace aP:=aj aP cW;refine b_ (a_ (ak (aQ 3 rfl (aA nd ?_))));have gW:=ar aP;subst gW;refine ak ⟨rfl,((U (i+1)),x1),[(3,some 3),(1,some 1),(2,some 2)],⟨rfl,rfl,rfl,rfl,rfl,⟨ag _ rfl,trivial⟩,⟨⟨_,rfl,rfl,rfl,.inl ⟨rfl,aw rfl⟩⟩,trivial⟩⟩,dC⟩
   ·replace aP:=aj aP c9;refine bP (aY ?_);obtain⟨t,lM,hq⟩:=aZ aP;subst hq;have hq:t=_:=dC;subst hq;refine aY (bQ ?_);have mW:=ar lM;refine ak ⟨rfl,x1,[(3,some 3),(1,some 1),(2,some 2)],⟨rfl,rfl,rfl,rfl,rfl,trivial,⟨⟨_,rfl,rfl,rfl,.inl ⟨rfl,aw rfl⟩⟩,trivial⟩⟩,mW⟩
  ·intro x jt;subst jt;refine aq 8 rfl ?_;refine bg bC vv.Rows ab rfl rfl rfl rfl rfl rfl ?_;refine af 5 rfl (aK ?_);exact Zq h rfl rfl rfl
def Gu (l:List aV) (i:Int) (fW:aJ):Option ((Int×aJ)⊕aJ):=
 (bif(decide (i<((l.length:Nat):Int))) then(β (aC l i) (fun e1=>(β (Gt e1.cn) (fun ku=>some (κ ((U (i+1)),(⟨(⟨min fW.X.a ku.X.a,max fW.X.b ku.X.b⟩:Sp),(⟨min fW.Y.a ku.Y.a,max fW.Y.b ku.Y.b⟩:Sp)⟩:aJ))))))) else some (ι fW))
def KS (l:List aV):Option aJ:=
 (β (jL l) (fun cv=>(bif(cv !=0) then some (⟨(⟨0,0⟩:Sp),(⟨0,0⟩:Sp)⟩:aJ) else(β (aC l 0) (fun e=>(β (Gt e.cn) (fun bv=>(β ((bb (fun q=>Gu l q.1 q.2) (1,bv)):Option aJ) (fun vr=>some vr)))))))))
theorem ajz (l:List aV) (r:aJ) (h:KS l=some r):Holds Tryz.prog 67 [(an cy) l] [] (cP r) []:=by
 unfold KS at h;refine bm Tryz.func67 rfl Tryz.ntmps67 rfl rfl rfl (fun lim=>?_);refine aa 1 rfl (ay (aq 1 rfl ?_));obtain⟨cv,bx,h⟩:=ah h;refine aM JK (KR l cv bx) rfl rfl rfl rfl rfl rfl rfl ?_;refine af 1 rfl ?_;refine ao (b:=cv !=0) rfl (fun c2=>?_) (fun c2=>?_)
 ·replace h:=ai h c2;refine aa 2 rfl (Ze ?_);exact Zq h rfl rfl rfl
 ·replace h:=aj h c2;refine Zk (aq 1 rfl ?_);obtain⟨e,dt,h⟩:=ah h;refine bn cy l 0 e dt ab rfl rfl rfl rfl rfl rfl rfl rfl rfl ?_;refine Zr 2 rfl ?_;obtain⟨bv,eV,h⟩:=ah h;refine aM Uk (Vw e.cn bv eV) rfl rfl rfl rfl rfl rfl rfl ?_;refine af 2 rfl ?_;obtain⟨y,eH,h⟩:=ah h;refine bJ (X:=aJ) [2,3] [2] (fun w=>[]) (fun w=>[(3,some ⟨36,4,[.agg [I w.X.a,I w.X.b,I w.Y.a,I w.Y.b]]⟩)]) (fun w=>w=y) rfl rfl ?_ ?_
  ·skip;refine aa 1 rfl (a6 ?_);refine bY (X:=Int×aJ) (Y:=aJ) [0,2,3] [2] (fun q=>[(4,I q.1)]) (fun q=>[(3,some ⟨36,4,[.agg [I q.2.X.a,I q.2.X.b,I q.2.Y.a,I q.2.Y.b]]⟩)]) (fun q=>Gu l q.1 q.2) (1,bv) [(3,some 3),(2,some 2)] eH ⟨rfl,rfl,rfl,rfl,rfl,⟨ag _ rfl,trivial⟩,⟨⟨_,rfl,rfl,rfl,.inl ⟨rfl,aw rfl⟩⟩,trivial⟩⟩ (fun x vR vz cr kv=>?_);obtain⟨i,fW⟩:=x;change Gu l i fW=_ at cr;unfold Gu at cr;refine ay (aq 2 rfl ?_);refine bg cy l ab rfl rfl rfl rfl rfl rfl ?_;refine af 1 rfl ?_;refine ao (b:=decide (i<((l.length:Nat):Int))) rfl (fun db=>?_) (fun db=>?_)
   ·replace cr:=ai cr db;refine Zk (ay (a6 (aq 2 rfl ?_)));obtain⟨e1,eG,cr⟩:=ah cr;refine bn cy l i e1 eG ab rfl rfl rfl rfl rfl rfl rfl rfl rfl ?_;refine Zr 2 rfl ?_;obtain⟨ku,dZ,cr⟩:=ah cr;refine aM Uk (Vw e1.cn ku dZ) rfl rfl rfl rfl rfl rfl rfl ?_;refine af 2 rfl (aa 17 rfl (aQ 17 rfl (aA nd (a_ (ak (aQ 3 rfl (aA nd ?_)))))));have fw:=ar cr;subst fw;refine ak ⟨rfl,((U (i+1)),(⟨(⟨min fW.X.a ku.X.a,max fW.X.b ku.X.b⟩:Sp),(⟨min fW.Y.a ku.Y.a,max fW.Y.b ku.Y.b⟩:Sp)⟩:aJ)),[(3,some 3),(2,some 2)],⟨rfl,rfl,rfl,rfl,rfl,⟨ag _ rfl,trivial⟩,⟨⟨_,rfl,rfl,rfl,.inl ⟨rfl,aw rfl⟩⟩,trivial⟩⟩,kv⟩
   ·replace cr:=aj cr db;refine bP (aY ?_);obtain⟨t,gV,hq⟩:=aZ cr;subst hq;have hq:t=_:=kv;subst hq;refine aY (bQ ?_);have gW:=ar gV;refine ak ⟨rfl,fW,[(3,some 3),(2,some 2)],⟨rfl,rfl,rfl,rfl,rfl,trivial,⟨⟨_,rfl,rfl,rfl,.inl ⟨rfl,aw rfl⟩⟩,trivial⟩⟩,gW⟩
  ·intro vr mX;subst mX;refine aa 2 rfl (aK ?_);exact Zq h rfl rfl rfl
def tY (l:List aV) (n1:Int) (i:Int):Option ((Int×Int)⊕Int):=
 (bif(decide (i<((l.length:Nat):Int))) then(β (aC l i) (fun e=>some (κ ((U (n1+e.aT)),U (i+1))))) else some (ι n1))
def rF (l:List aV):Option Int:=
 (β (jL l) (fun cv=>(bif(cv !=0) then some 0 else(β ((bb (fun q=>tY l q.1 q.2) (0,0)):Option Int) (fun n=>some n)))))
theorem ajA (l:List aV) (r:Int) (h:rF l=some r):Holds Tryz.prog 68 [(an cy) l] [] (I r) []:=by
 unfold rF at h;refine bm Tryz.func68 rfl Tryz.ntmps68 rfl rfl rfl (fun lim=>?_);refine aa 1 rfl (ay (aq 1 rfl ?_));obtain⟨cv,bx,h⟩:=ah h;refine aM JK (KR l cv bx) rfl rfl rfl rfl rfl rfl rfl ?_;refine af 1 rfl ?_;refine ao (b:=cv !=0) rfl (fun c2=>?_) (fun c2=>?_)
 ·replace h:=ai h c2;refine aa 1 rfl (Ze ?_);exact Zq h rfl rfl rfl
 ·replace h:=aj h c2;refine Zk (aa 1 rfl ?_);obtain⟨y,sG,h⟩:=ah h;refine bJ (X:=Int) [] [] (fun w=>[(3,I w)]) (fun w=>[]) (fun w=>w=y) rfl rfl ?_ ?_
  ·skip;refine aa 1 rfl (a6 ?_);refine bY (X:=Int×Int) (Y:=Int) [0] [] (fun q=>[(3,I q.1),(4,I q.2)]) (fun q=>[]) (fun q=>tY l q.1 q.2) (0,0) [] sG ⟨rfl,rfl,rfl,rfl,rfl,⟨ag _ rfl,ag _ rfl,trivial⟩,trivial⟩ (fun x vR vz cp lN=>?_);obtain⟨n1,i⟩:=x;change tY l n1 i=_ at cp;unfold tY at cp;refine ay (aq 2 rfl ?_);refine bg cy l ab rfl rfl rfl rfl rfl rfl ?_;refine af 1 rfl ?_;refine ao (b:=decide (i<((l.length:Nat):Int))) rfl (fun c8=>?_) (fun c8=>?_)
   ·replace cp:=ai cp c8;refine Zk (ay (a6 (aQ 3 rfl ?_)));obtain⟨e,eN,cp⟩:=ah cp;refine bn cy l i e eN ab rfl rfl rfl rfl rfl rfl rfl rfl rfl ?_;refine Zr 4 rfl (aA nd (a_ (ak (aQ 3 rfl (aA nd ?_)))));have gB:=ar cp;subst gB;refine ak ⟨rfl,((U (n1+e.aT)),U (i+1)),[],⟨rfl,rfl,rfl,rfl,rfl,⟨ag _ rfl,ag _ rfl,trivial⟩,trivial⟩,lN⟩
   ·replace cp:=aj cp c8;refine bP (aY ?_);obtain⟨t,kK,hq⟩:=aZ cp;subst hq;have hq:t=_:=lN;subst hq;refine aY (bQ ?_);have ik:=ar kK;refine ak ⟨rfl,n1,[],⟨rfl,rfl,rfl,rfl,rfl,⟨ag _ rfl,trivial⟩,trivial⟩,ik⟩
  ·intro n sH;subst sH;refine aa 2 rfl (aK ?_);exact Zq h rfl rfl rfl
def za (w:nK) (i:Int):Option (Int⊕(Bool⊕Unit)):=
 (bif(decide (i<((w.dT.length:Nat):Int))) then(β (aC w.dT i) (fun e=>(bif(decide (4<((e.bG.length:Nat):Int))) then some (ι (κ false)) else some (κ (U (i+1)))))) else some (ι (ι ())))
def Cp (w:nK):Option Bool:=
 (β ((cU (Gm w (⟨(⟨(⟨0,0⟩:Sp),(⟨0,0⟩:Sp)⟩:aJ),[]⟩:dR)) (fun gv=>(β (Gp gv) (fun sv=>(bif(!sv) then some (κ false) else(bif(decide (6<((w.gz.length:Nat):Int))) then some (κ false) else(bif(decide (3<((w.dT.length:Nat):Int))) then some (κ false) else(bif(decide (0<w.dW.dq)) then(bif(decide (w.dW.dq<10)) then some (κ false) else(bif(decide (0<w.dW.Step)) then(bif(decide (w.dW.Step<200)) then some (κ false) else some (ι ())) else some (ι ()))) else(bif(decide (0<w.dW.Step)) then(bif(decide (w.dW.Step<200)) then some (κ false) else some (ι ())) else some (ι ())))))))))):Option (Bool⊕Unit)) (Sum.elim (fun q=>some q) (fun _=>(β ((bb (fun q=>za w q) 0):Option (Bool⊕Unit)) (Sum.elim (fun q=>some q) (fun _=>(β (jL w.gz) (fun cv=>(bif(cv !=0) then some true else(β (KS w.gz) (fun bv=>(bif(decide ((U (bv.X.b -bv.X.a))≤160)) then(bif(decide ((U (bv.Y.b -bv.Y.a))≤160)) then(β (rF w.gz) (fun lv=>some (decide (lv≤3000)))) else some false) else some false))))))))))))
theorem ajB (w:nK) (r:Bool) (h:Cp w=some r):Holds Tryz.prog 24 [J4 w] [] (B r) []:=by
 unfold Cp at h;refine bm Tryz.func24 rfl Tryz.ntmps24 rfl rfl rfl (fun lim=>?_);refine aa 2 rfl ?_;obtain⟨y,bw,h⟩:=ah h;refine bJ (X:=Unit) [1] [1] (fun _=>[]) (fun _=>[]) (fun w1=>ι w1=y) rfl rfl ?_ ?_
 ·skip;refine aq 2 rfl ?_;obtain⟨gv,fx,bw⟩:=dH bw;refine oG (L:=[]) agd (ajs w (⟨(⟨(⟨0,0⟩:Sp),(⟨0,0⟩:Sp)⟩:aJ),[]⟩:dR) gv fx) rfl rfl rfl trivial ⟨aB _ rfl,⟨aB _ rfl,aB _ rfl,aB _ rfl,aB _ rfl,cF,trivial⟩,trivial⟩ rfl rfl (fun h=>absurd rfl h) rfl ?_;obtain⟨sv,dt,bw⟩:=ah bw;refine aM agc (ajw gv sv dt) rfl rfl rfl rfl rfl rfl rfl ?_;refine Zr 2 rfl ?_;refine bd rfl rfl rfl (fun g5=>?_) (fun g5=>?_)
  ·rw [g5];replace bw:=ai bw g5;refine af 35 rfl ?_;refine ao rfl (fun aL=>?_) Zx;clear aL;refine aa 1 rfl (aK ?_);obtain⟨t,hn6,hq⟩:=bT bw;subst hq;have hq:=bL h;replace hq:=ar hq;subst hq;refine aF ?_;exact Zq hn6 rfl rfl rfl
  ·rw [g5];replace bw:=aj bw g5;refine Zr 2 rfl ?_;refine bg cy w.gz ab rfl rfl rfl rfl rfl rfl ?_;refine Zr 3 rfl ?_;refine bd rfl rfl rfl (fun g8=>?_) (fun g8=>?_)
   ·rw [g8];replace bw:=ai bw g8;refine af 29 rfl ?_;refine ao rfl (fun aL=>?_) Zx;clear aL;refine aa 1 rfl (aK ?_);obtain⟨t1,gR,hq⟩:=bT bw;subst hq;have hq:=bL h;replace hq:=ar hq;subst hq;refine aF ?_;exact Zq gR rfl rfl rfl
   ·rw [g8];replace bw:=aj bw g8;refine Zr 2 rfl ?_;refine bg cL w.dT ab rfl rfl rfl rfl rfl rfl ?_;refine Zr 3 rfl ?_;refine bd rfl rfl rfl (fun g11=>?_) (fun g11=>?_)
    ·rw [g11];replace bw:=ai bw g11;refine af 23 rfl ?_;refine ao rfl (fun aL=>?_) Zx;clear aL;refine aa 1 rfl (aK ?_);obtain⟨t2,iq,hq⟩:=bT bw;subst hq;have hq:=bL h;replace hq:=ar hq;subst hq;refine aF ?_;exact Zq iq rfl rfl rfl
    ·rw [g11];replace bw:=aj bw g11;refine Zr 5 rfl ?_;refine bd rfl rfl rfl (fun g14=>?_) (fun g14=>?_)
     ·rw [g14];replace bw:=ai bw g14;refine Zr 7 rfl ?_;refine bd rfl rfl rfl (fun g15=>?_) (fun g15=>?_)
      ·rw [g15];replace bw:=ai bw g15;refine af 11 rfl ?_;refine ao rfl (fun aL=>?_) Zx;clear aL;refine aa 1 rfl (aK ?_);obtain⟨t3,lM,hq⟩:=bT bw;subst hq;have hq:=bL h;replace hq:=ar hq;subst hq;refine aF ?_;exact Zq lM rfl rfl rfl
      ·rw [g15];replace bw:=aj bw g15;refine Zr 5 rfl ?_;refine bd rfl rfl rfl (fun g18=>?_) (fun g18=>?_)
       ·rw [g18];replace bw:=ai bw g18;refine af 6 rfl ?_;refine ao (b:=decide (w.dW.Step<200)) rfl (fun ir=>?_) (fun ir=>?_)
        ·replace bw:=ai bw ir;refine aa 1 rfl (aK ?_);obtain⟨t4,iW,hq⟩:=bT bw;subst hq;have hq:=bL h;replace hq:=ar hq;subst hq;refine aF ?_;exact Zq iW rfl rfl rfl
        ·replace bw:=aj bw ir;refine b_ ?_;have gU:=ar bw;refine ak ⟨rfl,(),[(1,some 1)],⟨rfl,rfl,rfl,rfl,rfl,trivial,trivial⟩,gU⟩
       ·rw [g18];replace bw:=aj bw g18;refine af 6 rfl ?_;refine ao rfl Zx (fun aL=>?_);clear aL;refine b_ ?_;have lO:=ar bw;refine ak ⟨rfl,(),[(1,some 1)],⟨rfl,rfl,rfl,rfl,rfl,trivial,trivial⟩,lO⟩
     ·rw [g14];replace bw:=aj bw g14;refine Zr 12 rfl ?_;refine bd rfl rfl rfl (fun g24=>?_) (fun g24=>?_)
      ·rw [g24];replace bw:=ai bw g24;refine af 6 rfl ?_;refine ao (b:=decide (w.dW.Step<200)) rfl (fun gC=>?_) (fun gC=>?_)
       ·replace bw:=ai bw gC;refine aa 1 rfl (aK ?_);obtain⟨t5,mY,hq⟩:=bT bw;subst hq;have hq:=bL h;replace hq:=ar hq;subst hq;refine aF ?_;exact Zq mY rfl rfl rfl
       ·replace bw:=aj bw gC;refine b_ ?_;have lP:=ar bw;refine ak ⟨rfl,(),[(1,some 1)],⟨rfl,rfl,rfl,rfl,rfl,trivial,trivial⟩,lP⟩
      ·rw [g24];replace bw:=aj bw g24;refine af 6 rfl ?_;refine ao rfl Zx (fun aL=>?_);clear aL;refine b_ ?_;have jv:=ar bw;refine ak ⟨rfl,(),[(1,some 1)],⟨rfl,rfl,rfl,rfl,rfl,trivial,trivial⟩,jv⟩
 ·intro w1 dx;subst dx;replace h:=dI h;obtain⟨y1,KT,h⟩:=ah h;refine bJ (X:=Unit) [1] [1] (fun _=>[]) (fun _=>[]) (fun w2=>ι w2=y1) rfl rfl ?_ ?_
  ·skip;refine aa 1 rfl (a6 ?_);refine bY (X:=Int) (Y:=Bool⊕Unit) [1] [1] (fun q=>[(3,I q)]) (fun q=>[]) (fun q=>za w q) 0 [(1,some 1)] KT ⟨rfl,rfl,rfl,rfl,rfl,⟨ag _ rfl,trivial⟩,trivial⟩ (fun i vR vz dL qq=>?_);change za w i=_ at dL;unfold za at dL;refine ay (aq 3 rfl ?_);refine bg cL w.dT ab rfl rfl rfl rfl rfl rfl ?_;refine af 1 rfl ?_;refine ao (b:=decide (i<((w.dT.length:Nat):Int))) rfl (fun kP=>?_) (fun kP=>?_)
   ·replace dL:=ai dL kP;refine Zk (ay (a6 (aq 3 rfl ?_)));obtain⟨e,mi,dL⟩:=ah dL;refine bn cL w.dT i e mi ab rfl rfl rfl rfl rfl rfl rfl rfl rfl ?_;refine Zr 2 rfl ?_;refine bg I e.bG ab rfl rfl rfl rfl rfl rfl ?_;refine af 1 rfl ?_;refine ao (b:=decide (4<((e.bG.length:Nat):Int))) rfl (fun qt=>?_) (fun qt=>?_)
    ·replace dL:=ai dL qt;refine aa 1 rfl (aK (aW (aF ?_)));obtain⟨t6,qh,hq⟩:=aZ dL;subst hq;have hq:t6=_:=qq;subst hq;refine aF (aW ?_);obtain⟨t7,mU,hq⟩:=bT qh;subst hq;have hq:=bL h;replace hq:=ar hq;subst hq;refine aF ?_;exact Zq mU rfl rfl rfl
    ·replace dL:=aj dL qt;refine b_ (a_ (ak (aQ 3 rfl (aA nd ?_))));have qu:=ar dL;subst qu;refine ak ⟨rfl,U (i+1),[(1,some 1)],⟨rfl,rfl,rfl,rfl,rfl,⟨ag _ rfl,trivial⟩,trivial⟩,qq⟩
   ·replace dL:=aj dL kP;refine bP (aY ?_);obtain⟨t8,Cq,hq⟩:=aZ dL;subst hq;have hq:t8=_:=qq;subst hq;refine aY (bQ ?_);have qv:=ar Cq;refine ak ⟨rfl,(),[(1,some 1)],⟨rfl,rfl,rfl,rfl,rfl,trivial,trivial⟩,qv⟩
  ·intro w2 KU;subst KU;replace h:=dI h;refine ay (aq 2 rfl ?_);obtain⟨cv,KV,h⟩:=ah h;refine aM JK (KR w.gz cv KV) rfl rfl rfl rfl rfl rfl rfl ?_;refine af 1 rfl ?_;refine ao (b:=cv !=0) rfl (fun qw=>?_) (fun qw=>?_)
   ·replace h:=ai h qw;refine aa 1 rfl (Ze ?_);exact Zq h rfl rfl rfl
   ·replace h:=aj h qw;refine Zk (aq 2 rfl ?_);obtain⟨bv,KW,h⟩:=ah h;refine aM age (ajz w.gz bv KW) rfl rfl rfl rfl rfl rfl rfl ?_;refine af 2 rfl (aq 9 rfl ?_);refine bd rfl rfl rfl (fun Cr=>?_) (fun Cr=>?_)
    ·rw [Cr];replace h:=ai h Cr;refine Zr 10 rfl ?_;refine bd rfl rfl rfl (fun Cs=>?_) (fun Cs=>?_)
     ·rw [Cs];replace h:=ai h Cs;refine Zr 2 rfl ?_;obtain⟨lv,wg,h⟩:=ah h;refine aM agf (ajA w.gz lv wg) rfl rfl rfl rfl rfl rfl rfl ?_;refine af 3 rfl (aK ?_);exact Zq h rfl rfl rfl
     ·rw [Cs];replace h:=aj h Cs;refine af 6 rfl (aK ?_);exact Zq h rfl rfl rfl
    ·rw [Cr];replace h:=aj h Cr;refine af 16 rfl (aK ?_);exact Zq h rfl rfl rfl
def zb (e:cw) (k:Int):Option (Int⊕((Int⊕(Bool⊕Unit))⊕Unit)):=
 (bif(decide (k<((e.Read.length:Nat):Int))) then(β (aC e.Read k) (fun e2=>(bif(decide (e2.P_.X<(-80))) then some (ι (κ (ι (κ false)))) else(bif(decide (80<e2.P_.X)) then some (ι (κ (ι (κ false)))) else(bif(decide (e2.P_.Y<(-80))) then some (ι (κ (ι (κ false)))) else(bif(decide (80<e2.P_.Y)) then some (ι (κ (ι (κ false)))) else some (κ (U (k+1))))))))) else some (ι (ι ())))
def zc (t:me) (i:Int):Option (Int⊕(Bool⊕Unit)):=
 (bif(decide (i<((t.Scan.bM.length:Nat):Int))) then(β ((β (aC t.Scan.bM i) (fun e=>(bif(decide (40<((e.Read.length:Nat):Int))) then some (κ (ι (κ false))) else(β (aC t.Scan.bM i) (fun e1=>(bif(decide (3000<e1.Z)) then some (κ (ι (κ false))) else(bb (fun q=>zb e q) 0))))))):Option ((Int⊕(Bool⊕Unit))⊕Unit)) (Sum.elim (fun q=>some q) (fun _=>some (κ (U (i+1)))))) else some (ι (ι ())))
def Ct (t:me):Option Bool:=
 (bif(decide (6<((t.Scan.bM.length:Nat):Int))) then some false else(bif(decide (70<((t.Scan.dm.length:Nat):Int))) then some false else(β (Cp (⟨[],[],t.dT,t.dW,t.gy⟩:nK)) (fun lv=>(bif(!lv) then some false else(β ((bb (fun q=>zc t q) 0):Option (Bool⊕Unit)) (Sum.elim (fun q=>some q) (fun _=>some true))))))))
theorem ajD (t:me) (r:Bool) (h:Ct t=some r):Holds Tryz.prog 5 [F5 t] [] (B r) []:=by
 unfold Ct at h;refine bm Tryz.func5 rfl Tryz.ntmps5 rfl rfl rfl (fun lim=>?_);refine aa 2 rfl (ay (aq 3 rfl ?_));refine bg cN t.Scan.bM ab rfl rfl rfl rfl rfl rfl ?_;refine Zr 2 rfl ?_;refine bd rfl rfl rfl (fun g1=>?_) (fun g1=>?_)
 ·rw [g1];replace h:=ai h g1;refine af 17 rfl ?_;refine ao rfl (fun aL=>?_) Zx;clear aL;refine aa 1 rfl (Ze ?_);exact Zq h rfl rfl rfl
 ·rw [g1];replace h:=aj h g1;refine Zr 3 rfl ?_;refine bg cq t.Scan.dm ab rfl rfl rfl rfl rfl rfl ?_;refine Zr 3 rfl ?_;refine bd rfl rfl rfl (fun g3=>?_) (fun g3=>?_)
  ·rw [g3];replace h:=ai h g3;refine af 10 rfl ?_;refine ao rfl (fun aL=>?_) Zx;clear aL;refine aa 1 rfl (Ze ?_);exact Zq h rfl rfl rfl
  ·rw [g3];replace h:=aj h g3;refine Zr 7 rfl ?_;obtain⟨lv,eV,h⟩:=ah h;refine oG (L:=[]) af3 (ajB (⟨[],[],t.dT,t.dW,t.gy⟩:nK) lv eV) rfl rfl rfl trivial ⟨⟨cF,cF,aB _ rfl,aB _ rfl,aB _ rfl,aB _ rfl,aB _ rfl,aB _ rfl,aB _ rfl,aB _ rfl,trivial⟩,trivial⟩ rfl rfl (fun h=>absurd rfl h) rfl ?_;refine af 2 rfl ?_;refine ao (b:=!lv) rfl (fun c6=>?_) (fun c6=>?_)
   ·replace h:=ai h c6;refine aa 1 rfl (Ze ?_);exact Zq h rfl rfl rfl
   ·replace h:=aj h c6;refine Zk ?_;obtain⟨y,cX,h⟩:=ah h;refine bJ (X:=Unit) [] [] (fun _=>[]) (fun _=>[]) (fun w=>ι w=y) rfl rfl ?_ ?_
    ·skip;refine aa 1 rfl (a6 ?_);refine bY (X:=Int) (Y:=Bool⊕Unit) [1] [1] (fun q=>[(3,I q)]) (fun q=>[]) (fun q=>zc t q) 0 [(1,some 1)] cX ⟨rfl,rfl,rfl,rfl,rfl,⟨ag _ rfl,trivial⟩,trivial⟩ (fun i vR vz bD jw=>?_);change zc t i=_ at bD;unfold zc at bD;refine ay (aq 4 rfl ?_);refine bg cN t.Scan.bM ab rfl rfl rfl rfl rfl rfl ?_;refine af 1 rfl ?_;refine ao (b:=decide (i<((t.Scan.bM.length:Nat):Int))) rfl (fun dn=>?_) (fun dn=>?_)
     ·replace bD:=ai bD dn;refine Zk ?_;obtain⟨y1,iV,bD⟩:=ah bD;refine bJ (X:=Unit) [1,3] [1] (fun _=>[]) (fun _=>[]) (fun w1=>ι w1=y1) rfl rfl ?_ ?_
      ·skip;refine a6 (aq 4 rfl ?_);obtain⟨e,gX,iV⟩:=ah iV;refine bn cN t.Scan.bM i e gX ab rfl rfl rfl rfl rfl rfl rfl rfl rfl ?_;refine af 3 rfl (ay (aq 1 rfl ?_));refine bg cb e.Read ab rfl rfl rfl rfl rfl rfl ?_;refine Zr 2 rfl ?_;refine bd rfl rfl rfl (fun g16=>?_) (fun g16=>?_)
       ·rw [g16];replace iV:=ai iV g16;refine af 9 rfl ?_;refine ao rfl (fun aL=>?_) Zx;clear aL;refine aa 1 rfl (Ze (aW ?_));obtain⟨t1,iu,hq⟩:=bT iV;subst hq;have hq:=bL bD;replace hq:=ar hq;subst hq;refine aF ?_;obtain⟨t2,jr,hq⟩:=aZ iu;subst hq;have hq:t2=_:=jw;subst hq;refine aF (aW ?_);obtain⟨t3,jZ,hq⟩:=bT jr;subst hq;have hq:=bL h;replace hq:=ar hq;subst hq;refine aF ?_;exact Zq jZ rfl rfl rfl
       ·rw [g16];replace iV:=aj iV g16;refine Zr 4 rfl ?_;obtain⟨e1,rE,iV⟩:=ah iV;refine bn cN t.Scan.bM i e1 rE ab rfl rfl rfl rfl rfl rfl rfl rfl rfl ?_;refine af 4 rfl ?_;refine ao (b:=decide (3000<e1.Z)) rfl (fun kQ=>?_) (fun kQ=>?_)
        ·replace iV:=ai iV kQ;refine aa 1 rfl (Ze (aW ?_));obtain⟨t4,kM,hq⟩:=bT iV;subst hq;have hq:=bL bD;replace hq:=ar hq;subst hq;refine aF ?_;obtain⟨t5,sE,hq⟩:=aZ kM;subst hq;have hq:t5=_:=jw;subst hq;refine aF (aW ?_);obtain⟨t6,sI,hq⟩:=bT sE;subst hq;have hq:=bL h;replace hq:=ar hq;subst hq;refine aF ?_;exact Zq sI rfl rfl rfl
        ·replace iV:=aj iV kQ;refine Zk (aa 1 rfl (a6 ?_));refine bY (X:=Int) (Y:=(Int⊕(Bool⊕Unit))⊕Unit) [1,3,4] [1] (fun q=>[(5,I q)]) (fun q=>[]) (fun q=>zb e q) 0 [(1,some 1)] iV ⟨rfl,rfl,rfl,rfl,rfl,⟨ag _ rfl,trivial⟩,trivial⟩ (fun k jY gS cH mh=>?_);change zb e k=_ at cH;unfold zb at cH;refine ay (aq 2 rfl ?_);refine bg cb e.Read ab rfl rfl rfl rfl rfl rfl ?_;refine af 1 rfl ?_;refine ao (b:=decide (k<((e.Read.length:Nat):Int))) rfl (fun kN=>?_) (fun kN=>?_)
         ·replace cH:=ai cH kN;refine Zk (ay (a6 (aq 2 rfl ?_)));obtain⟨e2,nO,cH⟩:=ah cH;refine bn cb e.Read k e2 nO ab rfl rfl rfl rfl rfl rfl rfl rfl rfl ?_;refine af 4 rfl (aq 4 rfl ?_);refine bd rfl rfl rfl (fun qe=>?_) (fun qe=>?_)
          ·rw [qe];replace cH:=ai cH qe;refine af 14 rfl ?_;refine ao rfl (fun aL=>?_) Zx;clear aL;refine aa 1 rfl (aK (aW (aF ?_)));obtain⟨t7,vZ,hq⟩:=aZ cH;subst hq;have hq:t7=_:=mh;subst hq;refine aF (aW (aW ?_));obtain⟨t8,qf,hq⟩:=bT vZ;subst hq;have hq:=bL bD;replace hq:=ar hq;subst hq;refine aF ?_;obtain⟨t9,Cu,hq⟩:=aZ qf;subst hq;have hq:t9=_:=jw;subst hq;refine aF (aW ?_);obtain⟨t10,sJ,hq⟩:=bT Cu;subst hq;have hq:=bL h;replace hq:=ar hq;subst hq;refine aF ?_;exact Zq sJ rfl rfl rfl
          ·rw [qe];replace cH:=aj cH qe;refine Zr 5 rfl ?_;refine bd rfl rfl rfl (fun Cv=>?_) (fun Cv=>?_)
           ·rw [Cv];replace cH:=ai cH Cv;refine af 9 rfl ?_;refine ao rfl (fun aL=>?_) Zx;clear aL;refine aa 1 rfl (aK (aW (aF ?_)));obtain⟨t11,mU,hq⟩:=aZ cH;subst hq;have hq:t11=_:=mh;subst hq;refine aF (aW (aW ?_));obtain⟨t12,Cw,hq⟩:=bT mU;subst hq;have hq:=bL bD;replace hq:=ar hq;subst hq;refine aF ?_;obtain⟨t13,wh,hq⟩:=aZ Cw;subst hq;have hq:t13=_:=jw;subst hq;refine aF (aW ?_);obtain⟨t14,Cq,hq⟩:=bT wh;subst hq;have hq:=bL h;replace hq:=ar hq;subst hq;refine aF ?_;exact Zq Cq rfl rfl rfl
           ·rw [Cv];replace cH:=aj cH Cv;refine Zr 5 rfl ?_;refine bd rfl rfl rfl (fun Cy=>?_) (fun Cy=>?_)
            ·rw [Cy];replace cH:=ai cH Cy;refine af 4 rfl ?_;refine ao rfl (fun aL=>?_) Zx;clear aL;refine aa 1 rfl (aK (aW (aF ?_)));obtain⟨t15,wc,hq⟩:=aZ cH;subst hq;have hq:t15=_:=mh;subst hq;refine aF (aW (aW ?_));obtain⟨t16,KO,hq⟩:=bT wc;subst hq;have hq:=bL bD;replace hq:=ar hq;subst hq;refine aF ?_;obtain⟨t17,v_,hq⟩:=aZ KO;subst hq;have hq:t17=_:=jw;subst hq;refine aF (aW ?_);obtain⟨t18,Cz,hq⟩:=bT v_;subst hq;have hq:=bL h;replace hq:=ar hq;subst hq;refine aF ?_;exact Zq Cz rfl rfl rfl
            ·rw [Cy];replace cH:=aj cH Cy;refine af 4 rfl ?_;refine ao (b:=decide (80<e2.P_.Y)) rfl (fun KX=>?_) (fun KX=>?_)
             ·replace cH:=ai cH KX;refine aa 1 rfl (aK (aW (aF ?_)));obtain⟨t19,ajE,hq⟩:=aZ cH;subst hq;have hq:t19=_:=mh;subst hq;refine aF (aW (aW ?_));obtain⟨t20,KY,hq⟩:=bT ajE;subst hq;have hq:=bL bD;replace hq:=ar hq;subst hq;refine aF ?_;obtain⟨t21,wi,hq⟩:=aZ KY;subst hq;have hq:t21=_:=jw;subst hq;refine aF (aW ?_);obtain⟨t22,KZ,hq⟩:=bT wi;subst hq;have hq:=bL h;replace hq:=ar hq;subst hq;refine aF ?_;exact Zq KZ rfl rfl rfl
             ·replace cH:=aj cH KX;refine b_ (a_ (ak (aQ 3 rfl (aA nd ?_))));have e55:=ar cH;subst e55;refine ak ⟨rfl,U (k+1),[(1,some 1)],⟨rfl,rfl,rfl,rfl,rfl,⟨ag _ rfl,trivial⟩,trivial⟩,mh⟩
         ·replace cH:=aj cH kN;refine bP (aY ?_);obtain⟨t23,K0,hq⟩:=aZ cH;subst hq;have hq:t23=_:=mh;subst hq;refine aY (bQ (a_ ?_));have e57:=ar K0;refine ak ⟨rfl,(),[(1,some 1)],⟨rfl,rfl,rfl,rfl,rfl,trivial,trivial⟩,e57⟩
      ·intro w1 qd;subst qd;replace bD:=dI bD;refine aQ 3 rfl (aA nd ?_);have K1:=ar bD;subst K1;refine ak ⟨rfl,U (i+1),[(1,some 1)],⟨rfl,rfl,rfl,rfl,rfl,⟨ag _ rfl,trivial⟩,trivial⟩,jw⟩
     ·replace bD:=aj bD dn;refine bP (aY ?_);obtain⟨t24,ajH,hq⟩:=aZ bD;subst hq;have hq:t24=_:=jw;subst hq;refine aY (bQ ?_);have e60:=ar ajH;refine ak ⟨rfl,(),[],⟨rfl,rfl,rfl,rfl,rfl,trivial,trivial⟩,e60⟩
    ·intro w mZ;subst mZ;replace h:=dI h;refine aa 1 rfl (aK ?_);exact Zq h rfl rfl rfl
def Gv (fW:List dA) (i:Int):Option (((List dA)×Int)⊕(List dA)):=
 (bif(decide (i<((8:Nat):Int))) then(β (aC ([(⟨65,0⟩:aS),(⟨65,25⟩:aS),(⟨0,25⟩:aS),(⟨-65,25⟩:aS),(⟨-65,0⟩:aS),(⟨-65,-25⟩:aS),(⟨0,-25⟩:aS),(⟨65,-25⟩:aS)]) i) (fun e=>(β (cK 24 fW ([(⟨e,true⟩:dA)])) (fun l=>some (κ (l,U (i+1))))))) else some (ι fW))
def CA:Option eA:=
 (β ((bb (fun q=>Gv q.1 q.2) ([],0)):Option (List dA)) (fun vr=>some (⟨[(⟨0,vr⟩:cw),(⟨2000,vr⟩:cw)],[]⟩:eA)))
theorem Vx (r:eA) (h:CA=some r):Holds Tryz.prog 60 [] [] (rl r) []:=by
 unfold CA at h;refine bm Tryz.func60 rfl Tryz.ntmps60 rfl rfl rfl (fun lim=>?_);refine aa 1 rfl (aa 10 rfl (aa 1 rfl ?_));obtain⟨y,bw,h⟩:=ah h;refine bJ (X:=List dA) [0] [0] (fun w=>[(2,.arr 2 0 w.length)]) (fun w=>[(2,some ⟨96,3,w.map cb⟩)]) (fun w=>w=y) rfl rfl ?_ ?_
 ·skip;refine aa 1 rfl (a6 ?_);refine bY (X:=(List dA)×Int) (Y:=List dA) [0] [0] (fun q=>[(2,.arr 2 0 q.1.length),(3,I q.2),(1,.arr 12 0 8)]) (fun q=>[(2,some ⟨96,3,q.1.map cb⟩),(12,some ⟨94,2,([(⟨65,0⟩:aS),(⟨65,25⟩:aS),(⟨0,25⟩:aS),(⟨-65,25⟩:aS),(⟨-65,0⟩:aS),(⟨-65,-25⟩:aS),(⟨0,-25⟩:aS),(⟨65,-25⟩:aS)]).map a7⟩)]) (fun q=>Gv q.1 q.2) ([],0) [(2,none),(12,some 12),(0,some 0)] bw ⟨rfl,rfl,rfl,rfl,rfl,⟨⟨rfl,rfl,rfl⟩,ag _ rfl,⟨rfl,rfl,rfl⟩,trivial⟩,⟨rfl,⟨_,rfl,rfl,rfl,aD (enc:=a7) ([(⟨65,0⟩:aS),(⟨65,25⟩:aS),(⟨0,25⟩:aS),(⟨-65,25⟩:aS),(⟨-65,0⟩:aS),(⟨-65,-25⟩:aS),(⟨0,-25⟩:aS),(⟨65,-25⟩:aS)]) (fun _=>rfl)⟩,trivial⟩⟩ (fun x vR vz au cj=>?_);obtain⟨fW,i⟩:=x;change Gv fW i=_ at au;unfold Gv at au;refine ay (aa 4 rfl ?_);refine ao (b:=decide (i<((8:Nat):Int))) rfl (fun c5=>?_) (fun c5=>?_)
  ·replace au:=ai au c5;refine Zk (ay (a6 (aQ 3 rfl ?_)));obtain⟨e,dM,au⟩:=ah au;refine ew a7 ([(⟨65,0⟩:aS),(⟨65,25⟩:aS),(⟨0,25⟩:aS),(⟨-65,25⟩:aS),(⟨-65,0⟩:aS),(⟨-65,-25⟩:aS),(⟨0,-25⟩:aS),(⟨65,-25⟩:aS)]) i e dM rfl ab rfl rfl rfl rfl rfl rfl rfl rfl rfl rfl ?_;refine gO a7 ([(⟨65,0⟩:aS),(⟨65,25⟩:aS),(⟨0,25⟩:aS),(⟨-65,25⟩:aS),(⟨-65,0⟩:aS),(⟨-65,-25⟩:aS),(⟨0,-25⟩:aS),(⟨65,-25⟩:aS)]) i e _ dM ab rfl rfl rfl rfl rfl rfl rfl ?_;refine Zr 2 rfl ?_;obtain⟨l,eU,au⟩:=ah au;refine dY cb fW ([(⟨e,true⟩:dA)]) l eU (fun _=>rfl) rfl rfl ab rfl rfl rfl rfl rfl rfl rfl rfl rfl rfl rfl rfl rfl rfl rfl rfl rfl ?_;refine Zr 1 rfl (aA nd (a_ (ak (aQ 3 rfl (aA nd ?_)))));have e8:=ar au;subst e8;refine ak ⟨rfl,(l,U (i+1)),[(2,some 26),(12,some 12),(0,some 0)],⟨rfl,rfl,rfl,rfl,rfl,⟨⟨rfl,rfl,rfl⟩,ag _ rfl,⟨rfl,rfl,rfl⟩,trivial⟩,⟨⟨_,rfl,rfl,rfl,aD (enc:=cb) l (fun _=>rfl)⟩,⟨_,rfl,rfl,rfl,aD (enc:=a7) ([(⟨65,0⟩:aS),(⟨65,25⟩:aS),(⟨0,25⟩:aS),(⟨-65,25⟩:aS),(⟨-65,0⟩:aS),(⟨-65,-25⟩:aS),(⟨0,-25⟩:aS),(⟨65,-25⟩:aS)]) (fun _=>rfl)⟩,trivial⟩⟩,cj⟩
  ·replace au:=aj au c5;refine bP (aY ?_);obtain⟨t,gR,hq⟩:=aZ au;subst hq;have hq:t=_:=cj;subst hq;refine aY (bQ ?_);have gB:=ar gR;refine ak ⟨rfl,fW,[(2,some 2),(0,some 0)],⟨rfl,rfl,rfl,rfl,rfl,⟨⟨rfl,rfl,rfl⟩,trivial⟩,⟨⟨_,rfl,rfl,rfl,aD (enc:=cb) fW (fun _=>rfl)⟩,trivial⟩⟩,gB⟩
 ·intro vr dx;subst dx;refine ay ?_;refine ed [0] [0] [(2,some ⟨96,3,vr.map cb⟩)] [(0,some 0)] [(2,an cb vr)] [] rfl rfl rfl rfl rfl ⟨rfl,by decide,trivial⟩ ⟨cV rfl rfl (fun _=>rfl),trivial⟩ trivial ?_;refine fY 7 rfl ?_;refine ed [0] [] [(31,some ⟨92,2,([(⟨0,vr⟩:cw),(⟨2000,vr⟩:cw)]).map cN⟩)] [(0,some 0)] [] [(0,some ⟨25,2,[.agg [an cN ([(⟨0,vr⟩:cw),(⟨2000,vr⟩:cw)]),.bF]]⟩)] rfl rfl rfl rfl rfl ⟨rfl,by decide,trivial⟩ trivial ⟨⟨_,rfl,rfl,rfl,.inr ⟨⟨⟨cV rfl rfl (fun _=>rfl),ag _ rfl,trivial⟩,trivial⟩,⟨rfl,trivial⟩⟩⟩,trivial⟩ ?_;refine aK ?_;cases h;refine a8 (bp ab rfl rfl ?_);exact⟨aB _ rfl,cF,trivial⟩
def gj:(List bh):=
 [(⟨(⟨#[112,108,97,110,107]⟩:ByteArray),40,100,50,0,[2000],[70]⟩:bh)]
theorem Vy (r:List bh) (h:gj=r):Holds Tryz.prog 26 [] [] ((an cL) r) []:=by
 unfold gj at h;refine bm Tryz.func26 rfl Tryz.ntmps26 rfl rfl rfl (fun lim=>?_);refine aa 1 rfl (ay ?_);refine OP 3 rfl rfl ?_;refine Zr 3 rfl (aA nd ?_);refine OR [] [] [(1,some ⟨3,1,([2000]).map I⟩),(2,some ⟨3,1,([70]).map I⟩)] [] [(3,.agg [S (⟨#[112,108,97,110,107]⟩:ByteArray),I 40,I 100,I 50,I 0,an I ([2000]),an I ([70])])] [] rfl rfl rfl rfl rfl ⟨rfl,by decide,rfl,by decide,trivial⟩ ⟨⟨ag _ rfl,ag _ rfl,ag _ rfl,ag _ rfl,ag _ rfl,cV rfl rfl (fun _=>rfl),cV rfl rfl (fun _=>rfl),trivial⟩,trivial⟩ trivial ?_;refine af 2 rfl ?_;refine ed [] [] [(4,some ⟨72,7,([(⟨(⟨#[112,108,97,110,107]⟩:ByteArray),40,100,50,0,[2000],[70]⟩:bh)]).map cL⟩)] [] [(0,an cL ([(⟨(⟨#[112,108,97,110,107]⟩:ByteArray),40,100,50,0,[2000],[70]⟩:bh)]))] [] rfl rfl rfl rfl rfl ⟨rfl,by decide,trivial⟩ ⟨cV rfl rfl (fun _=>rfl),trivial⟩ trivial ?_;refine aK ?_;have e1:=h;subst e1;refine a8 ?_;refine bp ab rfl rfl ?_;exact(aB _ rfl)
def CB (n:Int):Bool:=
 (bif(decide ((-600)≤n)) then(decide (n≤600)) else false)
theorem Vz (n:Int) (r:Bool) (h:CB n=r):Holds Tryz.prog 161 [I n] [] (B r) []:=by
 unfold CB at h;refine bm Tryz.func161 rfl Tryz.ntmps161 rfl rfl rfl (fun lim=>?_);refine aa 1 rfl (aq 3 rfl ?_);refine bd rfl rfl rfl (fun g1=>?_) (fun g1=>?_)
 ·rw [g1];replace h:=ai h g1;refine af 4 rfl (aK ?_);have e2:=h;subst e2;refine a8 ?_;refine bp ab rfl rfl ?_;exact(aB _ rfl)
 ·rw [g1];replace h:=aj h g1;refine af 4 rfl (aK ?_);have e3:=h;subst e3;refine a8 ?_;refine bp ab rfl rfl ?_;exact(aB _ rfl)
theorem K2:lI Tryz.prog vQ 94=true:=by kernel_rfl
theorem K3:(Tryz.prog).eqGuardType (Tryz.prog).depth 94=false:=by kernel_rfl
def zd (vr:cw) (vv:Int):Option (Int⊕(Int⊕Unit)):=
 (bif(decide (vv<((vr.Read.length:Nat):Int))) then(β (aC vr.Read vv) (fun e=>(bif e.Ok then(bif(!(CB e.P_.X)) then some (ι (κ 9)) else(bif(!(CB e.P_.Y)) then some (ι (κ 9)) else some (κ (U (vv+1))))) else(bif(!(gx a7 e.P_ (⟨0,0⟩:aS))) then some (ι (κ 19)) else some (κ (U (vv+1))))))) else some (ι (ι ())))
def tZ (vr:cw):Option Int:=
 (bif(decide (((vr.Read.length:Nat):Int)<8)) then some 3 else(bif(decide (32<((vr.Read.length:Nat):Int))) then some 4 else(bif(decide (vr.Z<0)) then some 9 else(bif(decide (20000<vr.Z)) then some 9 else(β ((bb (fun q=>zd vr q) 0):Option (Int⊕Unit)) (Sum.elim (fun q=>some q) (fun _=>some 0)))))))
theorem Gw (vr:cw) (r:Int) (h:tZ vr=some r):Holds Tryz.prog 122 [cN vr] [] (I r) []:=by
 unfold tZ at h;refine bm Tryz.func122 rfl Tryz.ntmps122 rfl rfl rfl (fun lim=>?_);refine aa 2 rfl (ay (aq 2 rfl ?_));refine bg cb vr.Read ab rfl rfl rfl rfl rfl rfl ?_;refine af 1 rfl ?_;refine ao (b:=decide (((vr.Read.length:Nat):Int)<8)) rfl (fun c1=>?_) (fun c1=>?_)
 ·replace h:=ai h c1;refine aa 1 rfl (Ze ?_);exact Zq h rfl rfl rfl
 ·replace h:=aj h c1;refine Zk (ay (aq 2 rfl ?_));refine bg cb vr.Read ab rfl rfl rfl rfl rfl rfl ?_;refine af 1 rfl ?_;refine ao (b:=decide (32<((vr.Read.length:Nat):Int))) rfl (fun c3=>?_) (fun c3=>?_)
  ·replace h:=ai h c3;refine aa 1 rfl (Ze ?_);exact Zq h rfl rfl rfl
  ·replace h:=aj h c3;refine Zk (ay (aq 4 rfl ?_));refine bd rfl rfl rfl (fun g5=>?_) (fun g5=>?_)
   ·rw [g5];replace h:=ai h g5;refine af 4 rfl ?_;refine ao rfl (fun aL=>?_) Zx;clear aL;refine aa 1 rfl (Ze ?_);exact Zq h rfl rfl rfl
   ·rw [g5];replace h:=aj h g5;refine af 4 rfl ?_;refine ao (b:=decide (20000<vr.Z)) rfl (fun c7=>?_) (fun c7=>?_)
    ·replace h:=ai h c7;refine aa 1 rfl (Ze ?_);exact Zq h rfl rfl rfl
    ·replace h:=aj h c7;refine Zk ?_;obtain⟨y,jM,h⟩:=ah h;refine bJ (X:=Unit) [] [] (fun _=>[]) (fun _=>[]) (fun w=>ι w=y) rfl rfl ?_ ?_
     ·skip;refine aq 2 rfl ?_;refine bg cb vr.Read ab rfl rfl rfl rfl rfl rfl ?_;refine af 1 rfl (a6 ?_);refine bY (X:=Int) (Y:=Int⊕Unit) [22,23] [] (fun q=>[(24,I q)]) (fun q=>[]) (fun q=>zd vr q) 0 [] jM ⟨rfl,rfl,rfl,rfl,rfl,⟨ag _ rfl,trivial⟩,trivial⟩ (fun vv vR vz bN jN=>?_);change zd vr vv=_ at bN;unfold zd at bN;refine aa 1 rfl (ay ?_);refine ao (b:=decide (vv<((vr.Read.length:Nat):Int))) rfl (fun fa=>?_) (fun fa=>?_)
      ·replace bN:=ai bN fa;refine Zk (ay (a6 (ay (eQ bX ?_))));obtain⟨e,eW,bN⟩:=ah bN;refine bn cb vr.Read vv e eW ab rfl rfl rfl rfl rfl rfl rfl rfl rfl ?_;refine af 3 rfl (ay (aq 3 rfl ?_));refine bd rfl rfl rfl (fun g15=>?_) (fun g15=>?_)
       ·rw [g15];replace bN:=ai bN g15;refine Zr 3 rfl ?_;refine aM Uv (Vz e.P_.X _ rfl) rfl rfl rfl rfl rfl rfl rfl ?_;refine Zr 2 rfl ?_;refine bd rfl rfl rfl (fun g16=>?_) (fun g16=>?_)
        ·rw [g16];replace bN:=ai bN g16;refine af 7 rfl ?_;refine ao rfl (fun aL=>?_) Zx;clear aL;refine aa 1 rfl (Ze (aW (aF ?_)));obtain⟨t,iu,hq⟩:=aZ bN;subst hq;have hq:t=_:=jN;subst hq;refine aF (aW ?_);obtain⟨t1,jr,hq⟩:=bT iu;subst hq;have hq:=bL h;replace hq:=ar hq;subst hq;refine aF ?_;exact Zq jr rfl rfl rfl
        ·rw [g16];replace bN:=aj bN g16;refine Zr 3 rfl ?_;refine aM Uv (Vz e.P_.Y _ rfl) rfl rfl rfl rfl rfl rfl rfl ?_;refine af 3 rfl ?_;refine ao (b:=!(CB e.P_.Y)) rfl (fun kR=>?_) (fun kR=>?_)
         ·replace bN:=ai bN kR;refine aa 1 rfl (Ze (aW (aF ?_)));obtain⟨t2,oS,hq⟩:=aZ bN;subst hq;have hq:t2=_:=jN;subst hq;refine aF (aW ?_);obtain⟨t3,m_,hq⟩:=bT oS;subst hq;have hq:=bL h;replace hq:=ar hq;subst hq;refine aF ?_;exact Zq m_ rfl rfl rfl
         ·replace bN:=aj bN kR;refine Zk (aa 9 rfl ?_);refine ao rfl Zx (fun aL=>?_);clear aL;refine b_ (a_ (ak (aQ 2 rfl (aA nd ?_))));have fU:=ar bN;subst fU;refine ak ⟨rfl,U (vv+1),[],⟨rfl,rfl,rfl,rfl,rfl,⟨ag _ rfl,trivial⟩,trivial⟩,jN⟩
       ·rw [g15];replace bN:=aj bN g15;refine af 13 rfl ?_;refine ao rfl Zx (fun aL=>?_);clear aL;refine Zk (aq 7 rfl ?_);refine eL rfl (tL vQ rfl K2 K3 (by decide) rfl rfl rfl rfl rfl) rfl rfl rfl ?_;refine af 1 rfl ?_;refine ao (b:=!(gx a7 e.P_ (⟨0,0⟩:aS))) rfl (fun gC=>?_) (fun gC=>?_)
        ·replace bN:=ai bN gC;refine aa 1 rfl (aK (aW (aF ?_)));obtain⟨t4,mY,hq⟩:=aZ bN;subst hq;have hq:t4=_:=jN;subst hq;refine aF (aW ?_);obtain⟨t5,wj,hq⟩:=bT mY;subst hq;have hq:=bL h;replace hq:=ar hq;subst hq;refine aF ?_;exact Zq wj rfl rfl rfl
        ·replace bN:=aj bN gC;refine b_ (a_ (ak (aQ 2 rfl (aA nd ?_))));have jv:=ar bN;subst jv;refine ak ⟨rfl,U (vv+1),[],⟨rfl,rfl,rfl,rfl,rfl,⟨ag _ rfl,trivial⟩,trivial⟩,jN⟩
      ·replace bN:=aj bN fa;refine bP (aY ?_);obtain⟨t6,oT,hq⟩:=aZ bN;subst hq;have hq:t6=_:=jN;subst hq;refine aY (bQ ?_);have oU:=ar oT;refine ak ⟨rfl,(),[],⟨rfl,rfl,rfl,rfl,rfl,trivial,trivial⟩,oU⟩
     ·intro w wm;subst wm;replace h:=dI h;refine aa 1 rfl (aK ?_);exact Zq h rfl rfl rfl
def oV (s:Sp):Bool:=
 (decide (s.b≤s.a))
theorem zf (s:Sp) (r:Bool) (h:oV s=r):Holds Tryz.prog 144 [bC s] [] (B r) []:=by
 unfold oV at h;refine bm Tryz.func144 rfl Tryz.ntmps144 rfl rfl rfl (fun lim=>?_);refine aa 2 rfl (aa 6 rfl (aK ?_));have e1:=h;subst e1;refine a8 ?_;refine bp ab rfl rfl ?_;exact(aB _ rfl)
def sK (s:Sp) (low:Int) (high:Int):Bool:=
 (bif(decide (low≤(min s.a s.b))) then(decide ((max s.a s.b)≤high)) else false)
theorem K4 (s:Sp) (low:Int) (high:Int) (r:Bool) (h:sK s low high=r):Holds Tryz.prog 86 [bC s,I low,I high] [] (B r) []:=by
 unfold sK at h;refine bm Tryz.func86 rfl Tryz.ntmps86 rfl rfl rfl (fun lim=>?_);refine aa 2 rfl (aq 8 rfl ?_);refine bd rfl rfl rfl (fun g1=>?_) (fun g1=>?_)
 ·rw [g1];replace h:=ai h g1;refine af 9 rfl (aK ?_);have e2:=h;subst e2;refine a8 ?_;refine bp ab rfl rfl ?_;exact(aB _ rfl)
 ·rw [g1];replace h:=aj h g1;refine af 9 rfl (aK ?_);have e3:=h;subst e3;refine a8 ?_;refine bp ab rfl rfl ?_;exact(aB _ rfl)
def t_ (d:Df):Int:=
 (cU ((bif(decide (d.k<1)) then true else(decide (6<d.k))):Bool) (fun vv=>(bif vv then 10 else(cU ((bif(oV d.b.x) then true else(bif(oV d.b.y) then true else(oV d.b.z))):Bool) (fun aR=>(bif aR then 19 else(bif(!(sK d.b.x (-600) 600)) then 9 else(bif(!(sK d.b.y (-600) 600)) then 9 else(bif(!(sK d.b.z 0 20000)) then 9 else 0)))))))))
theorem ajJ (d:Df) (r:Int) (h:t_ d=r):Holds Tryz.prog 106 [cq d] [] (I r) []:=by
 unfold t_ at h;refine bm Tryz.func106 rfl Tryz.ntmps106 rfl rfl rfl (fun lim=>?_);refine aa 2 rfl (aa 4 rfl (ay (a6 ?_)));obtain⟨y,bw,h⟩:=dH h;refine bJ (X:=Bool) [3] [3] (fun w=>[(6,B w)]) (fun w=>[]) (fun w=>w=y) rfl rfl ?_ ?_
 ·skip;refine aQ 4 rfl ?_;refine bd rfl rfl rfl (fun g3=>?_) (fun g3=>?_)
  ·rw [g3];replace bw:=ai bw g3;refine Zr 5 rfl (aA nd ?_);have e4:=bw;refine ak ⟨rfl,true,[(3,some 3)],⟨rfl,rfl,rfl,rfl,rfl,⟨ag _ rfl,trivial⟩,trivial⟩,e4⟩
  ·rw [g3];replace bw:=aj bw g3;refine Zr 5 rfl (aA nd ?_);have e5:=bw;refine ak ⟨rfl,decide (6<d.k),[(3,some 3)],⟨rfl,rfl,rfl,rfl,rfl,⟨ag _ rfl,trivial⟩,trivial⟩,e5⟩
 ·intro vv dx;subst dx;refine ao (b:=vv) rfl (fun c6=>?_) (fun c6=>?_)
  ·replace h:=ai h c6;refine aa 1 rfl (aK (aW (aF ?_)));have e7:=h;subst e7;refine a8 ?_;refine bp ab rfl rfl ?_;exact(aB _ rfl)
  ·replace h:=aj h c6;obtain⟨y1,cX,h⟩:=dH h;refine bJ (X:=Bool) [3] [3] (fun w1=>[(15,B w1)]) (fun w1=>[]) (fun w1=>w1=y1) rfl rfl ?_ ?_
   ·skip;refine aQ 2 rfl ?_;refine aM yJ (zf d.b.x _ rfl) rfl rfl rfl rfl rfl rfl rfl ?_;refine Zr 1 rfl ?_;refine bd rfl rfl rfl (fun g10=>?_) (fun g10=>?_)
    ·rw [g10];replace cX:=ai cX g10;refine Zr 10 rfl (aA nd ?_);have kS:=cX;refine ak ⟨rfl,true,[(3,some 3)],⟨rfl,rfl,rfl,rfl,rfl,⟨ag _ rfl,trivial⟩,trivial⟩,kS⟩
    ·rw [g10];replace cX:=aj cX g10;refine Zr 2 rfl ?_;refine aM yJ (zf d.b.y _ rfl) rfl rfl rfl rfl rfl rfl rfl ?_;refine Zr 2 rfl ?_;refine bd rfl rfl rfl (fun g12=>?_) (fun g12=>?_)
     ·rw [g12];replace cX:=ai cX g12;refine Zr 5 rfl (aA nd ?_);have fw:=cX;refine ak ⟨rfl,true,[(3,some 3)],⟨rfl,rfl,rfl,rfl,rfl,⟨ag _ rfl,trivial⟩,trivial⟩,fw⟩
     ·rw [g12];replace cX:=aj cX g12;refine Zr 2 rfl ?_;refine aM yJ (zf d.b.z _ rfl) rfl rfl rfl rfl rfl rfl rfl ?_;refine Zr 2 rfl (aA nd ?_);have ju:=cX;refine ak ⟨rfl,oV d.b.z,[(3,some 3)],⟨rfl,rfl,rfl,rfl,rfl,⟨ag _ rfl,trivial⟩,trivial⟩,ju⟩
   ·intro aR mZ;subst mZ;refine ao (b:=aR) rfl (fun gD=>?_) (fun gD=>?_)
    ·replace h:=ai h gD;refine aa 1 rfl (aK (aW (aF ?_)));have iY:=h;subst iY;refine a8 ?_;refine bp ab rfl rfl ?_;exact(aB _ rfl)
    ·replace h:=aj h gD;refine aq 2 rfl ?_;refine aM JN (K4 d.b.x (-600) 600 _ rfl) rfl rfl rfl rfl rfl rfl rfl ?_;refine Zr 2 rfl ?_;refine bd rfl rfl rfl (fun g17=>?_) (fun g17=>?_)
     ·rw [g17];replace h:=ai h g17;refine af 12 rfl ?_;refine ao rfl (fun aL=>?_) Zx;clear aL;refine aa 1 rfl (aK (aW (aF ?_)));have gY:=h;subst gY;refine a8 ?_;refine bp ab rfl rfl ?_;exact(aB _ rfl)
     ·rw [g17];replace h:=aj h g17;refine Zr 2 rfl ?_;refine aM JN (K4 d.b.y (-600) 600 _ rfl) rfl rfl rfl rfl rfl rfl rfl ?_;refine Zr 3 rfl ?_;refine bd rfl rfl rfl (fun g19=>?_) (fun g19=>?_)
      ·rw [g19];replace h:=ai h g19;refine af 6 rfl ?_;refine ao rfl (fun aL=>?_) Zx;clear aL;refine aa 1 rfl (aK (aW (aF ?_)));have jy:=h;subst jy;refine a8 ?_;refine bp ab rfl rfl ?_;exact(aB _ rfl)
      ·rw [g19];replace h:=aj h g19;refine Zr 2 rfl ?_;refine aM JN (K4 d.b.z 0 20000 _ rfl) rfl rfl rfl rfl rfl rfl rfl ?_;refine af 3 rfl ?_;refine ao (b:=!(sK d.b.z 0 20000)) rfl (fun fJ=>?_) (fun fJ=>?_)
       ·replace h:=ai h fJ;refine aa 1 rfl (aK (aW (aF ?_)));have gU:=h;subst gU;refine a8 ?_;refine bp ab rfl rfl ?_;exact(aB _ rfl)
       ·replace h:=aj h fJ;refine b_ (a_ (ak (aa 1 rfl (aK ?_))));have lO:=h;subst lO;refine a8 ?_;refine bp ab rfl rfl ?_;exact(aB _ rfl)
def qx (l:List Df) (vv:Int):Option (Int⊕(Int⊕Unit)):=
 (bif(decide (vv<((l.length:Nat):Int))) then(β (aC l vv) (fun e=>(bif((t_ e)!=0) then some (ι (κ (t_ e))) else some (κ (U (vv+1)))))) else some (ι (ι ())))
def j_ (l:List Df):Option Int:=
 (bif(decide (64<((l.length:Nat):Int))) then some 4 else(β ((bb (fun q=>qx l q) 0):Option (Int⊕Unit)) (Sum.elim (fun q=>some q) (fun _=>some 0))))
theorem zg (l:List Df) (r:Int) (h:j_ l=some r):Holds Tryz.prog 56 [(an cq) l] [] (I r) []:=by
 unfold j_ at h;refine bm Tryz.func56 rfl Tryz.ntmps56 rfl rfl rfl (fun lim=>?_);refine aa 1 rfl (ay (aq 1 rfl ?_));refine bg cq l ab rfl rfl rfl rfl rfl rfl ?_;refine af 1 rfl ?_;refine ao (b:=decide (64<((l.length:Nat):Int))) rfl (fun c1=>?_) (fun c1=>?_)
 ·replace h:=ai h c1;refine aa 1 rfl (Ze ?_);exact Zq h rfl rfl rfl
 ·replace h:=aj h c1;refine Zk ?_;obtain⟨y,sL,h⟩:=ah h;refine bJ (X:=Unit) [] [] (fun _=>[]) (fun _=>[]) (fun w=>ι w=y) rfl rfl ?_ ?_
  ·skip;refine aq 1 rfl ?_;refine bg cq l ab rfl rfl rfl rfl rfl rfl ?_;refine af 1 rfl (a6 ?_);refine bY (X:=Int) (Y:=Int⊕Unit) [9,10] [] (fun q=>[(11,I q)]) (fun q=>[]) (fun q=>qx l q) 0 [] sL ⟨rfl,rfl,rfl,rfl,rfl,⟨ag _ rfl,trivial⟩,trivial⟩ (fun vv vR vz bc fC=>?_);change qx l vv=_ at bc;unfold qx at bc;refine aa 1 rfl (ay ?_);refine ao (b:=decide (vv<((l.length:Nat):Int))) rfl (fun c7=>?_) (fun c7=>?_)
   ·replace bc:=ai bc c7;refine Zk (ay (a6 (ay (eQ bX ?_))));obtain⟨e,eX,bc⟩:=ah bc;refine bn cq l vv e eX ab rfl rfl rfl rfl rfl rfl rfl rfl rfl ?_;refine af 3 rfl (aq 1 rfl ?_);refine aM agy (ajJ e _ rfl) rfl rfl rfl rfl rfl rfl rfl ?_;refine af 1 rfl (aa 2 rfl ?_);refine ao (b:=(t_ e)!=0) rfl (fun c9=>?_) (fun c9=>?_)
    ·replace bc:=ai bc c9;refine aa 2 rfl (aK (aW (aF ?_)));obtain⟨t,wo,hq⟩:=aZ bc;subst hq;have hq:t=_:=fC;subst hq;refine aF (aW ?_);obtain⟨t1,kK,hq⟩:=bT wo;subst hq;have hq:=bL h;replace hq:=ar hq;subst hq;refine aF ?_;exact Zq kK rfl rfl rfl
    ·replace bc:=aj bc c9;refine b_ (a_ (ak (aQ 2 rfl (aA nd ?_))));have fw:=ar bc;subst fw;refine ak ⟨rfl,U (vv+1),[],⟨rfl,rfl,rfl,rfl,rfl,⟨ag _ rfl,trivial⟩,trivial⟩,fC⟩
   ·replace bc:=aj bc c7;refine bP (aY ?_);obtain⟨t2,gV,hq⟩:=aZ bc;subst hq;have hq:t2=_:=fC;subst hq;refine aY (bQ ?_);have gW:=ar gV;refine ak ⟨rfl,(),[],⟨rfl,rfl,rfl,rfl,rfl,trivial,trivial⟩,gW⟩
  ·intro w sM;subst sM;replace h:=dI h;refine aa 1 rfl (aK ?_);exact Zq h rfl rfl rfl
end Go.Proofs.YtccnpbnokndeeaaGreatDoor
end
