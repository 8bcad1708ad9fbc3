/- Texts for the law: A1b. -/
import Derived.Test.YtccnpbnokndeeaaGreatDoorM4
noncomputable section
open Option renaming bind→β
open Sum renaming inr→ι,inl→κ
namespace Go.Proofs.YtccnpbnokndeeaaGreatDoor
open Go Go.Ab
set_option maxRecDepth 20000
set_option maxHeartbeats 1000000
def sP (l:List aG) (length:Int) (vv:Int):Option ((Int×Int)⊕(Int⊕Unit)):=
 (bif(decide (vv<((l.length:Nat):Int))) then(β (aK l vv) (fun e=>(β (uB e.bL) (fun cv=>(bif(cv !=0) then some (ι (κ cv)) else(bif(((e.bL.Rows.length:Nat):Int)==0) then some (ι (κ 18)) else(bif(decide (e.aX<1)) then some (ι (κ 9)) else(bif(decide ((U (20000 -length))<e.aX)) then some (ι (κ 9)) else some (κ ((U (length+e.aX)),U (vv+1))))))))))) else some (ι (ι ())))
def rn (l:List aG):Option Int:=
 (bif(((l.length:Nat):Int)==0) then some 3 else(bif(decide (24<((l.length:Nat):Int))) then some 4 else(β ((bR (fun q=>sP l q.1 q.2) (0,0)):Option (Int⊕Unit)) (Sum.elim (fun q=>some q) (fun _=>some 0)))))
theorem FT (l:List aG) (r:Int) (h:rn l=some r):Holds Tryz.prog 75 [(aj bK) l] [] (I r) []:=by
 unfold rn at h;refine bO Tryz.func75 rfl Tryz.ntmps75 rfl rfl rfl (fun lim=>?_);refine ab 1 rfl (aD (au 1 rfl ?_));refine bS bK l aa rfl rfl rfl rfl rfl rfl ?_;refine ah 1 rfl ?_;refine ar (b:=((l.length:Nat):Int)==0) rfl (fun c1=>?_) (fun c1=>?_)
 ·replace h:=ak h c1;refine ab 1 rfl (Ze ?_);have e2:=ae h;subst e2;refine ao ?_;refine aw aa rfl rfl ?_;exact(ag _ rfl)
 ·replace h:=an h c1;refine Zk (aD (au 1 rfl ?_));refine bS bK l aa rfl rfl rfl rfl rfl rfl ?_;refine ah 1 rfl ?_;refine ar (b:=decide (24<((l.length:Nat):Int))) rfl (fun c3=>?_) (fun c3=>?_)
  ·replace h:=ak h c3;refine ab 1 rfl (Ze ?_);have e4:=ae h;subst e4;refine ao ?_;refine aw aa rfl rfl ?_;exact(ag _ rfl)
  ·replace h:=an h c3;refine Zk (ab 1 rfl ?_);obtain⟨y,qa,h⟩:=ai h;refine cx (X:=Unit) [] [] (fun _=>[]) (fun _=>[]) (fun w=>ι w=y) rfl rfl ?_ ?_
   ·skip;refine au 1 rfl ?_;refine bS bK l aa rfl rfl rfl rfl rfl rfl ?_;refine ah 1 rfl (bn ?_);refine cN (X:=Int×Int) (Y:=Int⊕Unit) [13,14] [] (fun q=>[(3,I q.1),(15,I q.2)]) (fun q=>[]) (fun q=>sP l q.1 q.2) (0,0) [] qa ⟨rfl,rfl,rfl,rfl,rfl,⟨J _ rfl,J _ rfl,trivial⟩,trivial⟩ (fun x vR vz bc fT=>?_);obtain⟨length,vv⟩:=x;change sP l length vv=_ at bc;unfold sP at bc;refine ab 1 rfl (aD ?_);refine ar (b:=decide (vv<((l.length:Nat):Int))) rfl (fun c9=>?_) (fun c9=>?_)
    ·replace bc:=ak bc c9;refine Zk (aD (bn (aD (fJ cL ?_))));obtain⟨e,gx,bc⟩:=ai bc;refine cq bK l vv e gx aa rfl rfl rfl rfl rfl rfl rfl rfl rfl ?_;refine ah 3 rfl (aD (au 2 rfl ?_));obtain⟨cv,fF,bc⟩:=ai bc;refine aW VE (W0 e.bL cv fF) rfl rfl rfl rfl rfl rfl rfl ?_;refine ah 1 rfl (ab 2 rfl ?_);refine ar (b:=cv !=0) rfl (fun eZ=>?_) (fun eZ=>?_)
     ·replace bc:=ak bc eZ;refine ab 2 rfl (Ze (aZ (aJ ?_)));obtain⟨t,kn,hq⟩:=bf bc;subst hq;have hq:t=_:=fT;subst hq;refine aJ (aZ ?_);obtain⟨t1,ji,hq⟩:=cp kn;subst hq;have hq:=bZ h;replace hq:=ae hq;subst hq;refine aJ ?_;have fx:=ae ji;subst fx;refine ao ?_;refine aw aa rfl rfl ?_;exact(ag _ rfl)
     ·replace bc:=an bc eZ;refine Zk (aD (au 3 rfl ?_));refine bS bU e.bL.Rows aa rfl rfl rfl rfl rfl rfl ?_;refine ah 1 rfl ?_;refine ar (b:=((e.bL.Rows.length:Nat):Int)==0) rfl (fun gw=>?_) (fun gw=>?_)
      ·replace bc:=ak bc gw;refine ab 1 rfl (Ze (aZ (aJ ?_)));obtain⟨t2,kx,hq⟩:=bf bc;subst hq;have hq:t2=_:=fT;subst hq;refine aJ (aZ ?_);obtain⟨t3,ko,hq⟩:=cp kx;subst hq;have hq:=bZ h;replace hq:=ae hq;subst hq;refine aJ ?_;have hU:=ae ko;subst hU;refine ao ?_;refine aw aa rfl rfl ?_;exact(ag _ rfl)
      ·replace bc:=an bc gw;refine Zk (aD (au 4 rfl ?_));refine bu rfl rfl rfl (fun g20=>?_) (fun g20=>?_)
       ·rw [g20];replace bc:=ak bc g20;refine ah 6 rfl ?_;refine ar rfl (fun aN=>?_) Zx;clear aN;refine ab 1 rfl (Ze (aZ (aJ ?_)));obtain⟨t4,wO,hq⟩:=bf bc;subst hq;have hq:t4=_:=fT;subst hq;refine aJ (aZ ?_);obtain⟨t5,Cg,hq⟩:=cp wO;subst hq;have hq:=bZ h;replace hq:=ae hq;subst hq;refine aJ ?_;have jm:=ae Cg;subst jm;refine ao ?_;refine aw aa rfl rfl ?_;exact(ag _ rfl)
       ·rw [g20];replace bc:=an bc g20;refine ah 6 rfl ?_;refine ar (b:=decide ((U (20000 -length))<e.aX)) rfl (fun mM=>?_) (fun mM=>?_)
        ·replace bc:=ak bc mM;refine ab 1 rfl (Ze (aZ (aJ ?_)));obtain⟨t6,wL,hq⟩:=bf bc;subst hq;have hq:t6=_:=fT;subst hq;refine aJ (aZ ?_);obtain⟨t7,oE,hq⟩:=cp wL;subst hq;have hq:=bZ h;replace hq:=ae hq;subst hq;refine aJ ?_;have jh:=ae oE;subst jh;refine ao ?_;refine aw aa rfl rfl ?_;exact(ag _ rfl)
        ·replace bc:=an bc mM;refine Zk (aY 5 rfl (aI nd (bP (aq (aY 2 rfl (aI nd ?_))))));have iy:=ae bc;subst iy;refine aq ⟨rfl,((U (length+e.aX)),U (vv+1)),[],⟨rfl,rfl,rfl,rfl,rfl,⟨J _ rfl,J _ rfl,trivial⟩,trivial⟩,fT⟩
    ·replace bc:=an bc c9;refine cD (bg ?_);obtain⟨t8,oD,hq⟩:=bf bc;subst hq;have hq:t8=_:=fT;subst hq;refine bg (cE ?_);have kr:=ae oD;refine aq ⟨rfl,(),[],⟨rfl,rfl,rfl,rfl,rfl,trivial,trivial⟩,kr⟩
   ·intro w qb;subst qb;replace h:=dX h;refine ab 1 rfl (aR ?_);have lN:=ae h;subst lN;refine ao ?_;refine aw aa rfl rfl ?_;exact(ag _ rfl)
def KL (N:Nat) (l:List aG) (length:Int) (vv:Int):Option ((Int×Int)⊕(Int⊕Unit)):=
 (bif(decide (vv<((l.length:Nat):Int))) then(β (aK l vv) (fun e=>(β ((FR N) e.bL) (fun cv=>(bif(cv !=0) then some (ι (κ cv)) else(bif(((e.bL.Rows.length:Nat):Int)==0) then some (ι (κ 18)) else(bif(decide (e.aX<1)) then some (ι (κ 9)) else(bif(decide ((U (20000 -length))<e.aX)) then some (ι (κ 9)) else some (κ ((U (length+e.aX)),U (vv+1))))))))))) else some (ι (ι ())))
theorem alw (N:Nat) (l:List aG) (length:Int) (vv:Int):cw (KL N l length vv) (sP l length vv):=by
 unfold KL sP;repeat'(with_reducible first|exact cK|exact KK _ _|refine cO ?_ ?_|refine cP ?_ (fun _=>?_)|refine cQ (fun _=>?_)|refine cR ?_|refine cS (fun _=>?_) (fun _=>?_)|refine cX (fun _=>?_))
def Ch (N:Nat) (l:List aG):Option Int:=
 (bif(((l.length:Nat):Int)==0) then some 3 else(bif(decide (24<((l.length:Nat):Int))) then some 4 else(β ((eV N (fun q=>KL N l q.1 q.2) (0,0)):Option (Int⊕Unit)) (Sum.elim (fun q=>some q) (fun _=>some 0)))))
theorem FU (N:Nat) (l:List aG):cw (Ch N l) (rn l):=by
 unfold Ch rn;repeat'(with_reducible first|exact cK|exact KK _ _|exact alw _ _ _ _|refine cO ?_ ?_|refine cP ?_ (fun _=>?_)|refine cQ (fun _=>?_)|refine cR ?_|refine cS (fun _=>?_) (fun _=>?_)|refine cX (fun _=>?_))
def nC (s:Sp):Bool:=
 (decide (s.b≤s.a))
theorem zb (s:Sp) (r:Bool) (h:nC s=r):Holds Tryz.prog 144 [bU s] [] (B r) []:=by
 unfold nC at h;refine bO Tryz.func144 rfl Tryz.ntmps144 rfl rfl rfl (fun lim=>?_);refine ab 2 rfl (ab 6 rfl (aR ?_));have e1:=h;subst e1;refine ao ?_;refine aw aa rfl rfl ?_;exact(ag _ rfl)
def oF (s:Sp) (low:Int) (high:Int):Bool:=
 (bif(decide (low≤(min s.a s.b))) then(decide ((max s.a s.b)≤high)) else false)
theorem FV (s:Sp) (low:Int) (high:Int) (r:Bool) (h:oF s low high=r):Holds Tryz.prog 86 [bU s,I low,I high] [] (B r) []:=by
 unfold oF at h;refine bO Tryz.func86 rfl Tryz.ntmps86 rfl rfl rfl (fun lim=>?_);refine ab 2 rfl (au 8 rfl ?_);refine bu rfl rfl rfl (fun g1=>?_) (fun g1=>?_)
 ·rw [g1];replace h:=ak h g1;refine ah 9 rfl (aR ?_);have e2:=h;subst e2;refine ao ?_;refine aw aa rfl rfl ?_;exact(ag _ rfl)
 ·rw [g1];replace h:=an h g1;refine ah 9 rfl (aR ?_);have e3:=h;subst e3;refine ao ?_;refine aw aa rfl rfl ?_;exact(ag _ rfl)
def rq (d:Df):Int:=
 (cH ((bif(decide (d.k<1)) then true else(decide (6<d.k))):Bool) (fun vv=>(bif vv then 10 else(cH ((bif(nC d.b.x) then true else(bif(nC d.b.y) then true else(nC d.b.z))):Bool) (fun aB=>(bif aB then 19 else(bif(!(oF d.b.x (-600) 600)) then 9 else(bif(!(oF d.b.y (-600) 600)) then 9 else(bif(!(oF d.b.z 0 20000)) then 9 else 0)))))))))
theorem alx (d:Df) (r:Int) (h:rq d=r):Holds Tryz.prog 106 [bM d] [] (I r) []:=by
 unfold rq at h;refine bO Tryz.func106 rfl Tryz.ntmps106 rfl rfl rfl (fun lim=>?_);refine ab 2 rfl (ab 4 rfl (aD (bn ?_)));obtain⟨y,bV,h⟩:=dT h;refine cx (X:=Bool) [3] [3] (fun w=>[(6,B w)]) (fun w=>[]) (fun w=>w=y) rfl rfl ?_ ?_
 ·skip;refine aY 4 rfl ?_;refine bu rfl rfl rfl (fun g3=>?_) (fun g3=>?_)
  ·rw [g3];replace bV:=ak bV g3;refine Zr 5 rfl (aI nd ?_);have e4:=bV;refine aq ⟨rfl,true,[(3,some 3)],⟨rfl,rfl,rfl,rfl,rfl,⟨J _ rfl,trivial⟩,trivial⟩,e4⟩
  ·rw [g3];replace bV:=an bV g3;refine Zr 5 rfl (aI nd ?_);have e5:=bV;refine aq ⟨rfl,decide (6<d.k),[(3,some 3)],⟨rfl,rfl,rfl,rfl,rfl,⟨J _ rfl,trivial⟩,trivial⟩,e5⟩
 ·intro vv dP;subst dP;refine ar (b:=vv) rfl (fun c6=>?_) (fun c6=>?_)
  ·replace h:=ak h c6;refine ab 1 rfl (aR (aZ (aJ ?_)));have e7:=h;subst e7;refine ao ?_;refine aw aa rfl rfl ?_;exact(ag _ rfl)
  ·replace h:=an h c6;obtain⟨y1,fG,h⟩:=dT h;refine cx (X:=Bool) [3] [3] (fun w1=>[(15,B w1)]) (fun w1=>[]) (fun w1=>w1=y1) rfl rfl ?_ ?_
   ·skip;refine aY 2 rfl ?_;refine aW yF (zb d.b.x _ rfl) rfl rfl rfl rfl rfl rfl rfl ?_;refine Zr 1 rfl ?_;refine bu rfl rfl rfl (fun g10=>?_) (fun g10=>?_)
    ·rw [g10];replace fG:=ak fG g10;refine Zr 10 rfl (aI nd ?_);have fM:=fG;refine aq ⟨rfl,true,[(3,some 3)],⟨rfl,rfl,rfl,rfl,rfl,⟨J _ rfl,trivial⟩,trivial⟩,fM⟩
    ·rw [g10];replace fG:=an fG g10;refine Zr 2 rfl ?_;refine aW yF (zb d.b.y _ rfl) rfl rfl rfl rfl rfl rfl rfl ?_;refine Zr 2 rfl ?_;refine bu rfl rfl rfl (fun g12=>?_) (fun g12=>?_)
     ·rw [g12];replace fG:=ak fG g12;refine Zr 5 rfl (aI nd ?_);have dQ:=fG;refine aq ⟨rfl,true,[(3,some 3)],⟨rfl,rfl,rfl,rfl,rfl,⟨J _ rfl,trivial⟩,trivial⟩,dQ⟩
     ·rw [g12];replace fG:=an fG g12;refine Zr 2 rfl ?_;refine aW yF (zb d.b.z _ rfl) rfl rfl rfl rfl rfl rfl rfl ?_;refine Zr 2 rfl (aI nd ?_);have dZ:=fG;refine aq ⟨rfl,nC d.b.z,[(3,some 3)],⟨rfl,rfl,rfl,rfl,rfl,⟨J _ rfl,trivial⟩,trivial⟩,dZ⟩
   ·intro aB sL;subst sL;refine ar (b:=aB) rfl (fun fO=>?_) (fun fO=>?_)
    ·replace h:=ak h fO;refine ab 1 rfl (aR (aZ (aJ ?_)));have fw:=h;subst fw;refine ao ?_;refine aw aa rfl rfl ?_;exact(ag _ rfl)
    ·replace h:=an h fO;refine au 2 rfl ?_;refine aW Fa (FV d.b.x (-600) 600 _ rfl) rfl rfl rfl rfl rfl rfl rfl ?_;refine Zr 2 rfl ?_;refine bu rfl rfl rfl (fun g17=>?_) (fun g17=>?_)
     ·rw [g17];replace h:=ak h g17;refine ah 12 rfl ?_;refine ar rfl (fun aN=>?_) Zx;clear aN;refine ab 1 rfl (aR (aZ (aJ ?_)));have eR:=h;subst eR;refine ao ?_;refine aw aa rfl rfl ?_;exact(ag _ rfl)
     ·rw [g17];replace h:=an h g17;refine Zr 2 rfl ?_;refine aW Fa (FV d.b.y (-600) 600 _ rfl) rfl rfl rfl rfl rfl rfl rfl ?_;refine Zr 3 rfl ?_;refine bu rfl rfl rfl (fun g19=>?_) (fun g19=>?_)
      ·rw [g19];replace h:=ak h g19;refine ah 6 rfl ?_;refine ar rfl (fun aN=>?_) Zx;clear aN;refine ab 1 rfl (aR (aZ (aJ ?_)));have hZ:=h;subst hZ;refine ao ?_;refine aw aa rfl rfl ?_;exact(ag _ rfl)
      ·rw [g19];replace h:=an h g19;refine Zr 2 rfl ?_;refine aW Fa (FV d.b.z 0 20000 _ rfl) rfl rfl rfl rfl rfl rfl rfl ?_;refine ah 3 rfl ?_;refine ar (b:=!(oF d.b.z 0 20000)) rfl (fun ib=>?_) (fun ib=>?_)
       ·replace h:=ak h ib;refine ab 1 rfl (aR (aZ (aJ ?_)));have gK:=h;subst gK;refine ao ?_;refine aw aa rfl rfl ?_;exact(ag _ rfl)
       ·replace h:=an h ib;refine cV (bP (aq (ab 1 rfl (aR ?_))));have jm:=h;subst jm;refine ao ?_;refine aw aa rfl rfl ?_;exact(ag _ rfl)
def oG (l:List Df) (vv:Int):Option (Int⊕(Int⊕Unit)):=
 (bif(decide (vv<((l.length:Nat):Int))) then(β (aK l vv) (fun e=>(bif((rq e)!=0) then some (ι (κ (rq e))) else some (κ (U (vv+1)))))) else some (ι (ι ())))
def lR (l:List Df):Option Int:=
 (bif(decide (64<((l.length:Nat):Int))) then some 4 else(β ((bR (fun q=>oG l q) 0):Option (Int⊕Unit)) (Sum.elim (fun q=>some q) (fun _=>some 0))))
theorem zc (l:List Df) (r:Int) (h:lR l=some r):Holds Tryz.prog 56 [(aj bM) l] [] (I r) []:=by
 unfold lR at h;refine bO Tryz.func56 rfl Tryz.ntmps56 rfl rfl rfl (fun lim=>?_);refine ab 1 rfl (aD (au 1 rfl ?_));refine bS bM l aa rfl rfl rfl rfl rfl rfl ?_;refine ah 1 rfl ?_;refine ar (b:=decide (64<((l.length:Nat):Int))) rfl (fun c1=>?_) (fun c1=>?_)
 ·replace h:=ak h c1;refine ab 1 rfl (Ze ?_);have e2:=ae h;subst e2;refine ao ?_;refine aw aa rfl rfl ?_;exact(ag _ rfl)
 ·replace h:=an h c1;refine Zk ?_;obtain⟨y,qn,h⟩:=ai h;refine cx (X:=Unit) [] [] (fun _=>[]) (fun _=>[]) (fun w=>ι w=y) rfl rfl ?_ ?_
  ·skip;refine au 1 rfl ?_;refine bS bM l aa rfl rfl rfl rfl rfl rfl ?_;refine ah 1 rfl (bn ?_);refine cN (X:=Int) (Y:=Int⊕Unit) [9,10] [] (fun q=>[(11,I q)]) (fun q=>[]) (fun q=>oG l q) 0 [] qn ⟨rfl,rfl,rfl,rfl,rfl,⟨J _ rfl,trivial⟩,trivial⟩ (fun vv vR vz bW i_=>?_);change oG l vv=_ at bW;unfold oG at bW;refine ab 1 rfl (aD ?_);refine ar (b:=decide (vv<((l.length:Nat):Int))) rfl (fun c7=>?_) (fun c7=>?_)
   ·replace bW:=ak bW c7;refine Zk (aD (bn (aD (fJ cL ?_))));obtain⟨e,fj,bW⟩:=ai bW;refine cq bM l vv e fj aa rfl rfl rfl rfl rfl rfl rfl rfl rfl ?_;refine ah 3 rfl (au 1 rfl ?_);refine aW aiM (alx e _ rfl) rfl rfl rfl rfl rfl rfl rfl ?_;refine ah 1 rfl (ab 2 rfl ?_);refine ar (b:=(rq e)!=0) rfl (fun c9=>?_) (fun c9=>?_)
    ·replace bW:=ak bW c9;refine ab 2 rfl (aR (aZ (aJ ?_)));obtain⟨t,sQ,hq⟩:=bf bW;subst hq;have hq:t=_:=i_;subst hq;refine aJ (aZ ?_);obtain⟨t1,jI,hq⟩:=cp sQ;subst hq;have hq:=bZ h;replace hq:=ae hq;subst hq;refine aJ ?_;have fq:=ae jI;subst fq;refine ao ?_;refine aw aa rfl rfl ?_;exact(ag _ rfl)
    ·replace bW:=an bW c9;refine cV (bP (aq (aY 2 rfl (aI nd ?_))));have dQ:=ae bW;subst dQ;refine aq ⟨rfl,U (vv+1),[],⟨rfl,rfl,rfl,rfl,rfl,⟨J _ rfl,trivial⟩,trivial⟩,i_⟩
   ·replace bW:=an bW c7;refine cD (bg ?_);obtain⟨t2,ji,hq⟩:=bf bW;subst hq;have hq:t2=_:=i_;subst hq;refine bg (cE ?_);have fx:=ae ji;refine aq ⟨rfl,(),[],⟨rfl,rfl,rfl,rfl,rfl,trivial,trivial⟩,fx⟩
  ·intro w sR;subst sR;replace h:=dX h;refine ab 1 rfl (aR ?_);have fw:=ae h;subst fw;refine ao ?_;refine aw aa rfl rfl ?_;exact(ag _ rfl)
def KM (N:Nat) (l:List Df) (vv:Int):Option (Int⊕(Int⊕Unit)):=
 (bif(decide (vv<((l.length:Nat):Int))) then(β (aK l vv) (fun e=>(bif((rq e)!=0) then some (ι (κ (rq e))) else some (κ (U (vv+1)))))) else some (ι (ι ())))
theorem aly (N:Nat) (l:List Df) (vv:Int):cw (KM N l vv) (oG l vv):=by
 unfold KM oG;repeat'(with_reducible first|exact cK|refine cO ?_ ?_|refine cP ?_ (fun _=>?_)|refine cQ (fun _=>?_)|refine cR ?_|refine cS (fun _=>?_) (fun _=>?_)|refine cX (fun _=>?_))
def FW (N:Nat) (l:List Df):Option Int:=
 (bif(decide (64<((l.length:Nat):Int))) then some 4 else(β ((eV N (fun q=>KM N l q) 0):Option (Int⊕Unit)) (Sum.elim (fun q=>some q) (fun _=>some 0))))
theorem KN (N:Nat) (l:List Df):cw (FW N l) (lR l):=by
 unfold FW lR;repeat'(with_reducible first|exact cK|exact aly _ _ _|refine cO ?_ ?_|refine cP ?_ (fun _=>?_)|refine cQ (fun _=>?_)|refine cR ?_|refine cS (fun _=>?_) (fun _=>?_)|refine cX (fun _=>?_))
def oH (c:Int):Bool:=
 (bif(decide (97≤c)) then(decide (c≤122)) else false)
theorem W5 (c:Int) (r:Bool) (h:oH c=r):Holds Tryz.prog 101 [U8 c] [] (B r) []:=by
 unfold oH at h;refine bO Tryz.func101 rfl Tryz.ntmps101 rfl rfl rfl (fun lim=>?_);refine ab 1 rfl (au 3 rfl ?_);refine bu rfl rfl rfl (fun g1=>?_) (fun g1=>?_)
 ·rw [g1];replace h:=ak h g1;refine ah 4 rfl (aR ?_);have e2:=h;subst e2;refine ao ?_;refine aw aa rfl rfl ?_;exact(ag _ rfl)
 ·rw [g1];replace h:=an h g1;refine ah 4 rfl (aR ?_);have e3:=h;subst e3;refine ao ?_;refine aw aa rfl rfl ?_;exact(ag _ rfl)
def ru (c:Int):Bool:=
 (bif(decide (48≤c)) then(decide (c≤57)) else false)
theorem W6 (c:Int) (r:Bool) (h:ru c=r):Holds Tryz.prog 102 [U8 c] [] (B r) []:=by
 unfold ru at h;refine bO Tryz.func102 rfl Tryz.ntmps102 rfl rfl rfl (fun lim=>?_);refine ab 1 rfl (au 3 rfl ?_);refine bu rfl rfl rfl (fun g1=>?_) (fun g1=>?_)
 ·rw [g1];replace h:=ak h g1;refine ah 4 rfl (aR ?_);have e2:=h;subst e2;refine ao ?_;refine aw aa rfl rfl ?_;exact(ag _ rfl)
 ·rw [g1];replace h:=an h g1;refine ah 4 rfl (aR ?_);have e3:=h;subst e3;refine ao ?_;refine aw aa rfl rfl ?_;exact(ag _ rfl)
def rz (s:ByteArray) (i:Int):Option (Int⊕(Bool⊕Unit)):=
 (bif(decide (i<((s.size:Nat):Int))) then(β (jW s i) (fun c1=>(bif(!(oH c1)) then(bif(!(ru c1)) then(bif(c1 !=95) then some (ι (κ false)) else some (κ (U (i+1)))) else some (κ (U (i+1)))) else some (κ (U (i+1)))))) else some (ι (ι ())))
def pz (s:ByteArray):Option Bool:=
 (bif(decide (((s.size:Nat):Int)<1)) then some false else(bif(decide (16<((s.size:Nat):Int))) then some false else(β (jW s 0) (fun c=>(bif(!(oH c)) then some false else(β ((bR (fun q=>rz s q) 1):Option (Bool⊕Unit)) (Sum.elim (fun q=>some q) (fun _=>some true))))))))
theorem W7 (s:ByteArray) (r:Bool) (h:pz s=some r):Holds Tryz.prog 53 [S s] [] (B r) []:=by
 unfold pz at h;refine bO Tryz.func53 rfl Tryz.ntmps53 rfl rfl rfl (fun lim=>?_);refine ab 1 rfl (aD (au 4 rfl ?_));refine bu rfl rfl rfl (fun g1=>?_) (fun g1=>?_)
 ·rw [g1];replace h:=ak h g1;refine ah 10 rfl ?_;refine ar rfl (fun aN=>?_) Zx;clear aN;refine ab 1 rfl (Ze ?_);have e2:=ae h;subst e2;refine ao ?_;refine aw aa rfl rfl ?_;exact(ag _ rfl)
 ·rw [g1];replace h:=an h g1;refine Zr 5 rfl ?_;refine bu rfl rfl rfl (fun g3=>?_) (fun g3=>?_)
  ·rw [g3];replace h:=ak h g3;refine ah 5 rfl ?_;refine ar rfl (fun aN=>?_) Zx;clear aN;refine ab 1 rfl (Ze ?_);have e4:=ae h;subst e4;refine ao ?_;refine aw aa rfl rfl ?_;exact(ag _ rfl)
  ·rw [g3];replace h:=an h g3;refine Zr 1 rfl ?_;obtain⟨c,gg,h⟩:=ai h;refine vT s 0 c gg aa rfl rfl rfl rfl rfl rfl rfl ?_;refine aW Vu (W5 c _ rfl) rfl rfl rfl rfl rfl rfl rfl ?_;refine ah 2 rfl ?_;refine ar (b:=!(oH c)) rfl (fun c6=>?_) (fun c6=>?_)
   ·replace h:=ak h c6;refine ab 1 rfl (Ze ?_);have e7:=ae h;subst e7;refine ao ?_;refine aw aa rfl rfl ?_;exact(ag _ rfl)
   ·replace h:=an h c6;refine Zk ?_;obtain⟨y,fG,h⟩:=ai h;refine cx (X:=Unit) [] [] (fun _=>[]) (fun _=>[]) (fun w=>ι w=y) rfl rfl ?_ ?_
    ·skip;refine ab 1 rfl (bn ?_);refine cN (X:=Int) (Y:=Bool⊕Unit) [0] [] (fun q=>[(3,I q)]) (fun q=>[]) (fun q=>rz s q) 1 [] fG ⟨rfl,rfl,rfl,rfl,rfl,⟨J _ rfl,trivial⟩,trivial⟩ (fun i vR vz dp lQ=>?_);change rz s i=_ at dp;unfold rz at dp;refine aD (ab 4 rfl ?_);refine ar (b:=decide (i<((s.size:Nat):Int))) rfl (fun eZ=>?_) (fun eZ=>?_)
     ·replace dp:=ak dp eZ;refine Zk (aD (bn (au 2 rfl ?_)));obtain⟨c1,lO,dp⟩:=ai dp;refine vT s i c1 lO aa rfl rfl rfl rfl rfl rfl rfl ?_;refine ah 1 rfl (au 1 rfl ?_);refine aW Vu (W5 c1 _ rfl) rfl rfl rfl rfl rfl rfl rfl ?_;refine Zr 2 rfl ?_;refine bu rfl rfl rfl (fun g14=>?_) (fun g14=>?_)
      ·rw [g14];replace dp:=ak dp g14;refine Zr 1 rfl ?_;refine aW Vv (W6 c1 _ rfl) rfl rfl rfl rfl rfl rfl rfl ?_;refine Zr 3 rfl ?_;refine bu rfl rfl rfl (fun g15=>?_) (fun g15=>?_)
       ·rw [g15];replace dp:=ak dp g15;refine ah 3 rfl ?_;refine ar (b:=c1 !=95) rfl (fun gw=>?_) (fun gw=>?_)
        ·replace dp:=ak dp gw;refine ab 1 rfl (aR (aZ (aJ ?_)));obtain⟨t,kx,hq⟩:=bf dp;subst hq;have hq:t=_:=lQ;subst hq;refine aJ (aZ ?_);obtain⟨t1,ko,hq⟩:=cp kx;subst hq;have hq:=bZ h;replace hq:=ae hq;subst hq;refine aJ ?_;have hU:=ae ko;subst hU;refine ao ?_;refine aw aa rfl rfl ?_;exact(ag _ rfl)
        ·replace dp:=an dp gw;refine cV (bP (aq (aY 3 rfl (aI nd ?_))));have hZ:=ae dp;subst hZ;refine aq ⟨rfl,U (i+1),[],⟨rfl,rfl,rfl,rfl,rfl,⟨J _ rfl,trivial⟩,trivial⟩,lQ⟩
       ·rw [g15];replace dp:=an dp g15;refine ah 3 rfl ?_;refine ar rfl Zx (fun aN=>?_);clear aN;refine cV (bP (aq (aY 3 rfl (aI nd ?_))));have iw:=ae dp;subst iw;refine aq ⟨rfl,U (i+1),[],⟨rfl,rfl,rfl,rfl,rfl,⟨J _ rfl,trivial⟩,trivial⟩,lQ⟩
      ·rw [g14];replace dp:=an dp g14;refine ah 8 rfl ?_;refine ar rfl Zx (fun aN=>?_);clear aN;refine cV (bP (aq (aY 3 rfl (aI nd ?_))));have gK:=ae dp;subst gK;refine aq ⟨rfl,U (i+1),[],⟨rfl,rfl,rfl,rfl,rfl,⟨J _ rfl,trivial⟩,trivial⟩,lQ⟩
     ·replace dp:=an dp eZ;refine cD (bg ?_);obtain⟨t2,oy,hq⟩:=bf dp;subst hq;have hq:t2=_:=lQ;subst hq;refine bg (cE ?_);have iz:=ae oy;refine aq ⟨rfl,(),[],⟨rfl,rfl,rfl,rfl,rfl,trivial,trivial⟩,iz⟩
    ·intro w sL;subst sL;replace h:=dX h;refine ab 1 rfl (aR ?_);have jk:=ae h;subst jk;refine ao ?_;refine aw aa rfl rfl ?_;exact(ag _ rfl)
def KO (N:Nat) (s:ByteArray) (i:Int):Option (Int⊕(Bool⊕Unit)):=
 (bif(decide (i<((s.size:Nat):Int))) then(β (jW s i) (fun c1=>(bif(!(oH c1)) then(bif(!(ru c1)) then(bif(c1 !=95) then some (ι (κ false)) else some (κ (U (i+1)))) else some (κ (U (i+1)))) else some (κ (U (i+1)))))) else some (ι (ι ())))
theorem alz (N:Nat) (s:ByteArray) (i:Int):cw (KO N s i) (rz s i):=by
 unfold KO rz;repeat'(with_reducible first|exact cK|refine cO ?_ ?_|refine cP ?_ (fun _=>?_)|refine cQ (fun _=>?_)|refine cR ?_|refine cS (fun _=>?_) (fun _=>?_)|refine cX (fun _=>?_))
def KP (N:Nat) (s:ByteArray):Option Bool:=
 (bif(decide (((s.size:Nat):Int)<1)) then some false else(bif(decide (16<((s.size:Nat):Int))) then some false else(β (jW s 0) (fun c=>(bif(!(oH c)) then some false else(β ((eV N (fun q=>KO N s q) 1):Option (Bool⊕Unit)) (Sum.elim (fun q=>some q) (fun _=>some true))))))))
theorem KQ (N:Nat) (s:ByteArray):cw (KP N s) (pz s):=by
 unfold KP pz;repeat'(with_reducible first|exact cK|exact alz _ _ _|refine cO ?_ ?_|refine cP ?_ (fun _=>?_)|refine cQ (fun _=>?_)|refine cR ?_|refine cS (fun _=>?_) (fun _=>?_)|refine cX (fun _=>?_))
def rA (l:List aQ) (name:ByteArray) (vv:Int):Option (Int⊕((Int×Bool)⊕Unit)):=
 (bif(decide (vv<((l.length:Nat):Int))) then(β (aK l vv) (fun e=>(bif(kj e.Name name) then some (ι (κ (vv,true))) else some (κ (U (vv+1)))))) else some (ι (ι ())))
def rB (l:List aQ) (name:ByteArray):Option (Int×Bool):=
 (β ((bR (fun q=>rA l name q) 0):Option ((Int×Bool)⊕Unit)) (Sum.elim (fun q=>some q) (fun _=>some (0,false))))
theorem alA (l:List aQ) (name:ByteArray) (r:Int×Bool) (h:rB l name=some r):Holds Tryz.prog 98 [(aj bT) l,S name] [] (.cz [I r.1,B r.2]) []:=by
 unfold rB at h;refine bO Tryz.func98 rfl Tryz.ntmps98 rfl rfl rfl (fun lim=>?_);refine ab 2 rfl ?_;obtain⟨y,bV,h⟩:=ai h;refine cx (X:=Unit) [] [] (fun _=>[]) (fun _=>[]) (fun w=>ι w=y) rfl rfl ?_ ?_
 ·skip;refine au 1 rfl ?_;refine bS bT l aa rfl rfl rfl rfl rfl rfl ?_;refine ah 1 rfl (bn ?_);refine cN (X:=Int) (Y:=(Int×Bool)⊕Unit) [1,8,9] [] (fun q=>[(10,I q)]) (fun q=>[]) (fun q=>rA l name q) 0 [] bV ⟨rfl,rfl,rfl,rfl,rfl,⟨J _ rfl,trivial⟩,trivial⟩ (fun vv vR vz aA cF=>?_);change rA l name vv=_ at aA;unfold rA at aA;refine ab 1 rfl (aD ?_);refine ar (b:=decide (vv<((l.length:Nat):Int))) rfl (fun c5=>?_) (fun c5=>?_)
  ·replace aA:=ak aA c5;refine Zk (aD (bn (au 1 rfl ?_)));obtain⟨e,dD,aA⟩:=ai aA;refine cq bT l vv e dD aa rfl rfl rfl rfl rfl rfl rfl rfl rfl ?_;refine ah 4 rfl (au 3 rfl ?_);refine acT e.Name name rfl rfl rfl rfl rfl ?_;refine Zn ?_;refine ar (b:=kj e.Name name) rfl (fun c7=>?_) (fun c7=>?_)
   ·replace aA:=ak aA c7;refine ab 3 rfl (aR (aZ (aJ ?_)));obtain⟨t,ky,hq⟩:=bf aA;subst hq;have hq:t=_:=cF;subst hq;refine aJ (aZ ?_);obtain⟨t1,iu,hq⟩:=cp ky;subst hq;have hq:=bZ h;replace hq:=ae hq;subst hq;refine aJ ?_;have dG:=ae iu;subst dG;refine ao ?_;refine aw aa rfl rfl ?_;exact ag _ rfl
   ·replace aA:=an aA c7;refine cV (bP (aq (aY 2 rfl (aI nd ?_))));have fM:=ae aA;subst fM;refine aq ⟨rfl,U (vv+1),[],⟨rfl,rfl,rfl,rfl,rfl,⟨J _ rfl,trivial⟩,trivial⟩,cF⟩
  ·replace aA:=an aA c5;refine cD (bg ?_);obtain⟨t2,h_,hq⟩:=bf aA;subst hq;have hq:t2=_:=cF;subst hq;refine bg (cE ?_);have dQ:=ae h_;refine aq ⟨rfl,(),[],⟨rfl,rfl,rfl,rfl,rfl,trivial,trivial⟩,dQ⟩
 ·intro w dP;subst dP;replace h:=dX h;refine ab 2 rfl (aR ?_);have dZ:=ae h;subst dZ;refine ao ?_;refine aw aa rfl rfl ?_;exact ag _ rfl
def KR (N:Nat) (l:List aQ) (name:ByteArray) (vv:Int):Option (Int⊕((Int×Bool)⊕Unit)):=
 (bif(decide (vv<((l.length:Nat):Int))) then(β (aK l vv) (fun e=>(bif(kj e.Name name) then some (ι (κ (vv,true))) else some (κ (U (vv+1)))))) else some (ι (ι ())))
theorem alB (N:Nat) (l:List aQ) (name:ByteArray) (vv:Int):cw (KR N l name vv) (rA l name vv):=by
 unfold KR rA;repeat'(with_reducible first|exact cK|refine cO ?_ ?_|refine cP ?_ (fun _=>?_)|refine cQ (fun _=>?_)|refine cR ?_|refine cS (fun _=>?_) (fun _=>?_)|refine cX (fun _=>?_))
def KS (N:Nat) (l:List aQ) (name:ByteArray):Option (Int×Bool):=
 (β ((eV N (fun q=>KR N l name q) 0):Option ((Int×Bool)⊕Unit)) (Sum.elim (fun q=>some q) (fun _=>some (0,false))))
theorem W8 (N:Nat) (l:List aQ) (name:ByteArray):cw (KS N l name) (rB l name):=by
 unfold KS rB;repeat'(with_reducible first|exact cK|exact alB _ _ _ _|refine cO ?_ ?_|refine cP ?_ (fun _=>?_)|refine cQ (fun _=>?_)|refine cR ?_|refine cS (fun _=>?_) (fun _=>?_)|refine cX (fun _=>?_))
def Ci (n:Int):Bool:=
 (bif(decide (1≤n)) then(decide (n≤600)) else false)
theorem W9 (n:Int) (r:Bool) (h:Ci n=r):Holds Tryz.prog 103 [I n] [] (B r) []:=by
 unfold Ci at h;refine bO Tryz.func103 rfl Tryz.ntmps103 rfl rfl rfl (fun lim=>?_);refine ab 1 rfl (au 3 rfl ?_);refine bu rfl rfl rfl (fun g1=>?_) (fun g1=>?_)
 ·rw [g1];replace h:=ak h g1;refine ah 4 rfl (aR ?_);have e2:=h;subst e2;refine ao ?_;refine aw aa rfl rfl ?_;exact(ag _ rfl)
 ·rw [g1];replace h:=an h g1;refine ah 4 rfl (aR ?_);have e3:=h;subst e3;refine ao ?_;refine aw aa rfl rfl ?_;exact(ag _ rfl)
def Cj (FY:Int) (allow:Int):Int:=
 (U (Int.tdiv (U ((U (FY*(U (1000+allow))))+999)) 1000))
theorem W_ (FY:Int) (allow:Int) (r:Int) (h:Cj FY allow=r):Holds Tryz.prog 104 [I FY,I allow] [] (I r) []:=by
 unfold Cj at h;refine bO Tryz.func104 rfl Tryz.ntmps104 rfl rfl rfl (fun lim=>?_);refine ab 1 rfl (ab 7 rfl (aR ?_));have e1:=h;subst e1;refine ao ?_;refine aw aa rfl rfl ?_;exact(ag _ rfl)
def jn (p:aQ):(Int×Int):=
 (bif(!(Ci p.dB)) then(0,0) else(bif(!(Ci p.dR)) then(0,0) else(bif(decide (p.dM<0)) then(0,0) else(bif(decide (200<p.dM)) then(0,0) else((Cj p.dB p.dM),Cj p.dR p.dM)))))
theorem F0 (p:aQ) (r:Int×Int) (h:jn p=r):Holds Tryz.prog 54 [bT p] [] (.cz [I r.1,I r.2]) []:=by
 unfold jn at h;refine bO Tryz.func54 rfl Tryz.ntmps54 rfl rfl rfl (fun lim=>?_);refine ab 3 rfl (aD (au 2 rfl ?_));refine aW Vw (W9 p.dB _ rfl) rfl rfl rfl rfl rfl rfl rfl ?_;refine Zr 2 rfl ?_;refine bu rfl rfl rfl (fun g1=>?_) (fun g1=>?_)
 ·rw [g1];replace h:=ak h g1;refine ah 15 rfl ?_;refine ar rfl (fun aN=>?_) Zx;clear aN;refine ab 2 rfl (Ze ?_);have e2:=h;subst e2;refine ao ?_;refine aw aa rfl rfl ?_;exact ag _ rfl
 ·rw [g1];replace h:=an h g1;refine Zr 2 rfl ?_;refine aW Vw (W9 p.dR _ rfl) rfl rfl rfl rfl rfl rfl rfl ?_;refine Zr 3 rfl ?_;refine bu rfl rfl rfl (fun g3=>?_) (fun g3=>?_)
  ·rw [g3];replace h:=ak h g3;refine ah 9 rfl ?_;refine ar rfl (fun aN=>?_) Zx;clear aN;refine ab 2 rfl (Ze ?_);have e4:=h;subst e4;refine ao ?_;refine aw aa rfl rfl ?_;exact ag _ rfl
  ·rw [g3];replace h:=an h g3;refine Zr 5 rfl ?_;refine bu rfl rfl rfl (fun g5=>?_) (fun g5=>?_)
   ·rw [g5];replace h:=ak h g5;refine ah 4 rfl ?_;refine ar rfl (fun aN=>?_) Zx;clear aN;refine ab 2 rfl (Ze ?_);have e6:=h;subst e6;refine ao ?_;refine aw aa rfl rfl ?_;exact ag _ rfl
   ·rw [g5];replace h:=an h g5;refine ah 4 rfl ?_;refine ar (b:=decide (200<p.dM)) rfl (fun c7=>?_) (fun c7=>?_)
    ·replace h:=ak h c7;refine ab 2 rfl (Ze ?_);have e8:=h;subst e8;refine ao ?_;refine aw aa rfl rfl ?_;exact ag _ rfl
    ·replace h:=an h c7;refine Zk (au 4 rfl ?_);refine aW Vx (W_ p.dB p.dM _ rfl) rfl rfl rfl rfl rfl rfl rfl ?_;refine Zr 4 rfl ?_;refine aW Vx (W_ p.dR p.dM _ rfl) rfl rfl rfl rfl rfl rfl rfl ?_;refine Zr 2 rfl ?_;refine aI (fun _=>by kernel_rfl) ?_;refine aq (aR ?_);have e9:=h;subst e9;refine ao ?_;refine aw aa rfl rfl ?_;exact ag _ rfl
def sS (p:aQ) (vv:Int):Option (Int⊕(Int⊕Unit)):=
 (bif(decide (vv<((p.bQ.length:Nat):Int))) then(β (aK p.bQ vv) (fun e=>(bif(decide (e<100)) then some (ι (κ 9)) else(bif(decide (20000<e)) then some (ι (κ 9)) else(bif(decide (0<vv)) then(β (aK p.bQ (U (vv -1))) (fun e1=>(bif(decide (e≤e1)) then some (ι (κ 11)) else some (κ (U (vv+1)))))) else some (κ (U (vv+1)))))))) else some (ι (ι ())))
def sT (p:aQ) (aB:Int):Option (Int⊕(Int⊕Unit)):=
 (bif(decide (aB<((p.da.length:Nat):Int))) then(β (aK p.da aB) (fun e2=>(bif(decide (e2<0)) then some (ι (κ 9)) else(bif(decide (1000000<e2)) then some (ι (κ 9)) else some (κ (U (aB+1))))))) else some (ι (ι ())))
def pA (p:aQ):Option Int:=
 (bif(decide (p.dB<5)) then some 9 else(bif(decide (300<p.dB)) then some 9 else(bif(decide (p.dR<p.dB)) then some 9 else(bif(decide (600<p.dR)) then some 9 else(bif(decide (p.dM<0)) then some 9 else(bif(decide (200<p.dM)) then some 9 else(bif(decide (p.dH<0)) then some 9 else(bif(decide (1000<p.dH)) then some 9 else(cH (jn p) (fun gv=>(bif(decide (600<gv.2)) then some 9 else(bif(((p.bQ.length:Nat):Int)==0) then some 3 else(bif(decide (8<((p.bQ.length:Nat):Int))) then some 4 else(bif(((p.da.length:Nat):Int)!=((p.bQ.length:Nat):Int)) then some 19 else(β ((bR (fun q=>sS p q) 0):Option (Int⊕Unit)) (Sum.elim (fun q=>some q) (fun _=>(β ((bR (fun q=>sT p q) 0):Option (Int⊕Unit)) (Sum.elim (fun q=>some q) (fun _=>some 0))))))))))))))))))))
theorem alC (p:aQ) (r:Int) (h:pA p=some r):Holds Tryz.prog 99 [bT p] [] (I r) []:=by
 unfold pA at h;refine bO Tryz.func99 rfl Tryz.ntmps99 rfl rfl rfl (fun lim=>?_);refine ab 2 rfl (aD (au 4 rfl ?_));refine bu rfl rfl rfl (fun g1=>?_) (fun g1=>?_)
 ·rw [g1];replace h:=ak h g1;refine ah 16 rfl ?_;refine ar rfl (fun aN=>?_) Zx;clear aN;refine ab 1 rfl (Ze ?_);have e2:=ae h;subst e2;refine ao ?_;refine aw aa rfl rfl ?_;exact(ag _ rfl)
 ·rw [g1];replace h:=an h g1;refine Zr 5 rfl ?_;refine bu rfl rfl rfl (fun g3=>?_) (fun g3=>?_)
  ·rw [g3];replace h:=ak h g3;refine ah 11 rfl ?_;refine ar rfl (fun aN=>?_) Zx;clear aN;refine ab 1 rfl (Ze ?_);have e4:=ae h;subst e4;refine ao ?_;refine aw aa rfl rfl ?_;exact(ag _ rfl)
  ·rw [g3];replace h:=an h g3;refine Zr 7 rfl ?_;refine bu rfl rfl rfl (fun g5=>?_) (fun g5=>?_)
   ·rw [g5];replace h:=ak h g5;refine ah 4 rfl ?_;refine ar rfl (fun aN=>?_) Zx;clear aN;refine ab 1 rfl (Ze ?_);have e6:=ae h;subst e6;refine ao ?_;refine aw aa rfl rfl ?_;exact(ag _ rfl)
   ·rw [g5];replace h:=an h g5;refine ah 4 rfl ?_;refine ar (b:=decide (600<p.dR)) rfl (fun c7=>?_) (fun c7=>?_)
    ·replace h:=ak h c7;refine ab 1 rfl (Ze ?_);have e8:=ae h;subst e8;refine ao ?_;refine aw aa rfl rfl ?_;exact(ag _ rfl)
    ·replace h:=an h c7;refine Zk (aD (au 4 rfl ?_));refine bu rfl rfl rfl (fun g9=>?_) (fun g9=>?_)
     ·rw [g9];replace h:=ak h g9;refine ah 14 rfl ?_;refine ar rfl (fun aN=>?_) Zx;clear aN;refine ab 1 rfl (Ze ?_);have dG:=ae h;subst dG;refine ao ?_;refine aw aa rfl rfl ?_;exact(ag _ rfl)
     ·rw [g9];replace h:=an h g9;refine Zr 5 rfl ?_;refine bu rfl rfl rfl (fun g11=>?_) (fun g11=>?_)
      ·rw [g11];replace h:=ak h g11;refine ah 9 rfl ?_;refine ar rfl (fun aN=>?_) Zx;clear aN;refine ab 1 rfl (Ze ?_);have fq:=ae h;subst fq;refine ao ?_;refine aw aa rfl rfl ?_;exact(ag _ rfl)
      ·rw [g11];replace h:=an h g11;refine Zr 5 rfl ?_;refine bu rfl rfl rfl (fun g13=>?_) (fun g13=>?_)
       ·rw [g13];replace h:=ak h g13;refine ah 4 rfl ?_;refine ar rfl (fun aN=>?_) Zx;clear aN;refine ab 1 rfl (Ze ?_);have dZ:=ae h;subst dZ;refine ao ?_;refine aw aa rfl rfl ?_;exact(ag _ rfl)
       ·rw [g13];replace h:=an h g13;refine ah 4 rfl ?_;refine ar (b:=decide (1000<p.dH)) rfl (fun fO=>?_) (fun fO=>?_)
        ·replace h:=ak h fO;refine ab 1 rfl (Ze ?_);have fw:=ae h;subst fw;refine ao ?_;refine aw aa rfl rfl ?_;exact(ag _ rfl)
        ·replace h:=an h fO;refine Zk (aD (au 1 rfl ?_));obtain⟨gv,jJ,h⟩:=dT h;refine aW E_ (F0 p gv jJ) rfl rfl rfl rfl rfl rfl rfl ?_;refine ah 5 rfl (ab 2 rfl ?_);refine ar (b:=decide (600<gv.2)) rfl (fun jK=>?_) (fun jK=>?_)
         ·replace h:=ak h jK;refine ab 1 rfl (Ze ?_);have hU:=ae h;subst hU;refine ao ?_;refine aw aa rfl rfl ?_;exact(ag _ rfl)
         ·replace h:=an h jK;refine Zk (aD (au 2 rfl ?_));refine bS I p.bQ aa rfl rfl rfl rfl rfl rfl ?_;refine ah 1 rfl ?_;refine ar (b:=((p.bQ.length:Nat):Int)==0) rfl (fun qi=>?_) (fun qi=>?_)
          ·replace h:=ak h qi;refine ab 1 rfl (Ze ?_);have iw:=ae h;subst iw;refine ao ?_;refine aw aa rfl rfl ?_;exact(ag _ rfl)
          ·replace h:=an h qi;refine Zk (aD (au 2 rfl ?_));refine bS I p.bQ aa rfl rfl rfl rfl rfl rfl ?_;refine ah 1 rfl ?_;refine ar (b:=decide (8<((p.bQ.length:Nat):Int))) rfl (fun iQ=>?_) (fun iQ=>?_)
           ·replace h:=ak h iQ;refine ab 1 rfl (Ze ?_);have jm:=ae h;subst jm;refine ao ?_;refine aw aa rfl rfl ?_;exact(ag _ rfl)
           ·replace h:=an h iQ;refine Zk (aD (au 2 rfl ?_));refine bS I p.da aa rfl rfl rfl rfl rfl rfl ?_;refine Zr 2 rfl ?_;refine bS I p.bQ aa rfl rfl rfl rfl rfl rfl ?_;refine ah 1 rfl ?_;refine ar (b:=((p.da.length:Nat):Int)!=((p.bQ.length:Nat):Int)) rfl (fun mM=>?_) (fun mM=>?_)
            ·replace h:=ak h mM;refine ab 1 rfl (Ze ?_);have jk:=ae h;subst jk;refine ao ?_;refine aw aa rfl rfl ?_;exact(ag _ rfl)
            ·replace h:=an h mM;refine Zk ?_;obtain⟨y,alD,h⟩:=ai h;refine cx (X:=Unit) [1] [1] (fun _=>[]) (fun _=>[]) (fun w=>ι w=y) rfl rfl ?_ ?_
             ·skip;refine au 2 rfl ?_;refine bS I p.bQ aa rfl rfl rfl rfl rfl rfl ?_;refine ah 1 rfl (bn ?_);refine cN (X:=Int) (Y:=Int⊕Unit) [1,70,71] [1] (fun q=>[(72,I q)]) (fun q=>[]) (fun q=>sS p q) 0 [(1,some 1)] alD ⟨rfl,rfl,rfl,rfl,rfl,⟨J _ rfl,trivial⟩,trivial⟩ (fun vv vR vz gV zd=>?_);change sS p vv=_ at gV;unfold sS at gV;refine ab 1 rfl (aD ?_);refine ar (b:=decide (vv<((p.bQ.length:Nat):Int))) rfl (fun KT=>?_) (fun KT=>?_)
              ·replace gV:=ak gV KT;refine Zk (aD (bn (au 1 rfl ?_)));obtain⟨e,sI,gV⟩:=ai gV;refine cq I p.bQ vv e sI aa rfl rfl rfl rfl rfl rfl rfl rfl rfl ?_;refine ah 3 rfl (aD (au 3 rfl ?_));refine bu rfl rfl rfl (fun Ck=>?_) (fun Ck=>?_)
               ·rw [Ck];replace gV:=ak gV Ck;refine ah 3 rfl ?_;refine ar rfl (fun aN=>?_) Zx;clear aN;refine ab 1 rfl (Ze (aZ (aJ ?_)));obtain⟨t,sC,hq⟩:=bf gV;subst hq;have hq:t=_:=zd;subst hq;refine aJ (aZ ?_);obtain⟨t1,Kv,hq⟩:=cp sC;subst hq;have hq:=bZ h;replace hq:=ae hq;subst hq;refine aJ ?_;have wJ:=ae Kv;subst wJ;refine ao ?_;refine aw aa rfl rfl ?_;exact(ag _ rfl)
               ·rw [Ck];replace gV:=an gV Ck;refine ah 3 rfl ?_;refine ar (b:=decide (20000<e)) rfl (fun qg=>?_) (fun qg=>?_)
                ·replace gV:=ak gV qg;refine ab 1 rfl (Ze (aZ (aJ ?_)));obtain⟨t2,sD,hq⟩:=bf gV;subst hq;have hq:t2=_:=zd;subst hq;refine aJ (aZ ?_);obtain⟨t3,oz,hq⟩:=cp sD;subst hq;have hq:=bZ h;replace hq:=ae hq;subst hq;refine aJ ?_;have lL:=ae oz;subst lL;refine ao ?_;refine aw aa rfl rfl ?_;exact(ag _ rfl)
                ·replace gV:=an gV qg;refine Zk (au 3 rfl ?_);refine bu rfl rfl rfl (fun Cl=>?_) (fun Cl=>?_)
                 ·rw [Cl];replace gV:=ak gV Cl;refine Zr 5 rfl ?_;obtain⟨e1,Cm,gV⟩:=ai gV;refine cq I p.bQ (U (vv -1)) e1 Cm aa rfl rfl rfl rfl rfl rfl rfl rfl rfl ?_;refine ah 3 rfl ?_;refine ar (b:=decide (e≤e1)) rfl (fun KU=>?_) (fun KU=>?_)
                  ·replace gV:=ak gV KU;refine ab 1 rfl (aR (aZ (aJ ?_)));obtain⟨t4,oA,hq⟩:=bf gV;subst hq;have hq:t4=_:=zd;subst hq;refine aJ (aZ ?_);obtain⟨t5,wF,hq⟩:=cp oA;subst hq;have hq:=bZ h;replace hq:=ae hq;subst hq;refine aJ ?_;have mO:=ae wF;subst mO;refine ao ?_;refine aw aa rfl rfl ?_;exact(ag _ rfl)
                  ·replace gV:=an gV KU;refine cV (bP (aq (aY 2 rfl (aI nd ?_))));have wG:=ae gV;subst wG;refine aq ⟨rfl,U (vv+1),[(1,some 1)],⟨rfl,rfl,rfl,rfl,rfl,⟨J _ rfl,trivial⟩,trivial⟩,zd⟩
                 ·rw [Cl];replace gV:=an gV Cl;refine ah 9 rfl ?_;refine ar rfl Zx (fun aN=>?_);clear aN;refine cV (bP (aq (aY 2 rfl (aI nd ?_))));have sF:=ae gV;subst sF;refine aq ⟨rfl,U (vv+1),[(1,some 1)],⟨rfl,rfl,rfl,rfl,rfl,⟨J _ rfl,trivial⟩,trivial⟩,zd⟩
              ·replace gV:=an gV KT;refine cD (bg ?_);obtain⟨t6,Cn,hq⟩:=bf gV;subst hq;have hq:t6=_:=zd;subst hq;refine bg (cE ?_);have Co:=ae Cn;refine aq ⟨rfl,(),[(1,some 1)],⟨rfl,rfl,rfl,rfl,rfl,trivial,trivial⟩,Co⟩
             ·intro w alE;subst alE;replace h:=dX h;obtain⟨y1,alF,h⟩:=ai h;refine cx (X:=Unit) [] [] (fun _=>[]) (fun _=>[]) (fun w1=>ι w1=y1) rfl rfl ?_ ?_
              ·skip;refine au 2 rfl ?_;refine bS I p.da aa rfl rfl rfl rfl rfl rfl ?_;refine ah 1 rfl (bn ?_);refine cN (X:=Int) (Y:=Int⊕Unit) [97,98] [] (fun q=>[(99,I q)]) (fun q=>[]) (fun q=>sT p q) 0 [] alF ⟨rfl,rfl,rfl,rfl,rfl,⟨J _ rfl,trivial⟩,trivial⟩ (fun aB lq jB kG F4=>?_);change sT p aB=_ at kG;unfold sT at kG;refine ab 1 rfl (aD ?_);refine ar (b:=decide (aB<((p.da.length:Nat):Int))) rfl (fun KV=>?_) (fun KV=>?_)
               ·replace kG:=ak kG KV;refine Zk (aD (bn (aD (fJ cL ?_))));obtain⟨e2,KW,kG⟩:=ai kG;refine cq I p.da aB e2 KW aa rfl rfl rfl rfl rfl rfl rfl rfl rfl ?_;refine ah 2 rfl (au 3 rfl ?_);refine bu rfl rfl rfl (fun Cp=>?_) (fun Cp=>?_)
                ·rw [Cp];replace kG:=ak kG Cp;refine ah 3 rfl ?_;refine ar rfl (fun aN=>?_) Zx;clear aN;refine ab 1 rfl (aR (aZ (aJ ?_)));obtain⟨t7,KX,hq⟩:=bf kG;subst hq;have hq:t7=_:=F4;subst hq;refine aJ (aZ ?_);obtain⟨t8,alG,hq⟩:=cp KX;subst hq;have hq:=bZ h;replace hq:=ae hq;subst hq;refine aJ ?_;have e59:=ae alG;subst e59;refine ao ?_;refine aw aa rfl rfl ?_;exact(ag _ rfl)
                ·rw [Cp];replace kG:=an kG Cp;refine ah 3 rfl ?_;refine ar (b:=decide (1000000<e2)) rfl (fun wP=>?_) (fun wP=>?_)
                 ·replace kG:=ak kG wP;refine ab 1 rfl (aR (aZ (aJ ?_)));obtain⟨t9,KY,hq⟩:=bf kG;subst hq;have hq:t9=_:=F4;subst hq;refine aJ (aZ ?_);obtain⟨t10,KZ,hq⟩:=cp KY;subst hq;have hq:=bZ h;replace hq:=ae hq;subst hq;refine aJ ?_;have K0:=ae KZ;subst K0;refine ao ?_;refine aw aa rfl rfl ?_;exact(ag _ rfl)
                 ·replace kG:=an kG wP;refine cV (bP (aq (aY 2 rfl (aI nd ?_))));have K1:=ae kG;subst K1;refine aq ⟨rfl,U (aB+1),[],⟨rfl,rfl,rfl,rfl,rfl,⟨J _ rfl,trivial⟩,trivial⟩,F4⟩
               ·replace kG:=an kG KV;refine cD (bg ?_);obtain⟨t11,alI,hq⟩:=bf kG;subst hq;have hq:t11=_:=F4;subst hq;refine bg (cE ?_);have e66:=ae alI;refine aq ⟨rfl,(),[],⟨rfl,rfl,rfl,rfl,rfl,trivial,trivial⟩,e66⟩
              ·intro w1 alK;subst alK;replace h:=dX h;refine ab 1 rfl (aR ?_);have K2:=ae h;subst K2;refine ao ?_;refine aw aa rfl rfl ?_;exact(ag _ rfl)
def K3 (N:Nat) (p:aQ) (vv:Int):Option (Int⊕(Int⊕Unit)):=
 (bif(decide (vv<((p.bQ.length:Nat):Int))) then(β (aK p.bQ vv) (fun e=>(bif(decide (e<100)) then some (ι (κ 9)) else(bif(decide (20000<e)) then some (ι (κ 9)) else(bif(decide (0<vv)) then(β (aK p.bQ (U (vv -1))) (fun e1=>(bif(decide (e≤e1)) then some (ι (κ 11)) else some (κ (U (vv+1)))))) else some (κ (U (vv+1)))))))) else some (ι (ι ())))
theorem Xa (N:Nat) (p:aQ) (vv:Int):cw (K3 N p vv) (sS p vv):=by
 unfold K3 sS;repeat'(with_reducible first|exact cK|refine cO ?_ ?_|refine cP ?_ (fun _=>?_)|refine cQ (fun _=>?_)|refine cR ?_|refine cS (fun _=>?_) (fun _=>?_)|refine cX (fun _=>?_))
def K4 (N:Nat) (p:aQ) (aB:Int):Option (Int⊕(Int⊕Unit)):=
 (bif(decide (aB<((p.da.length:Nat):Int))) then(β (aK p.da aB) (fun e2=>(bif(decide (e2<0)) then some (ι (κ 9)) else(bif(decide (1000000<e2)) then some (ι (κ 9)) else some (κ (U (aB+1))))))) else some (ι (ι ())))
theorem alL (N:Nat) (p:aQ) (aB:Int):cw (K4 N p aB) (sT p aB):=by
 unfold K4 sT;repeat'(with_reducible first|exact cK|exact Xa _ _ _|refine cO ?_ ?_|refine cP ?_ (fun _=>?_)|refine cQ (fun _=>?_)|refine cR ?_|refine cS (fun _=>?_) (fun _=>?_)|refine cX (fun _=>?_))
def K5 (N:Nat) (p:aQ):Option Int:=
 (bif(decide (p.dB<5)) then some 9 else(bif(decide (300<p.dB)) then some 9 else(bif(decide (p.dR<p.dB)) then some 9 else(bif(decide (600<p.dR)) then some 9 else(bif(decide (p.dM<0)) then some 9 else(bif(decide (200<p.dM)) then some 9 else(bif(decide (p.dH<0)) then some 9 else(bif(decide (1000<p.dH)) then some 9 else(cH (jn p) (fun gv=>(bif(decide (600<gv.2)) then some 9 else(bif(((p.bQ.length:Nat):Int)==0) then some 3 else(bif(decide (8<((p.bQ.length:Nat):Int))) then some 4 else(bif(((p.da.length:Nat):Int)!=((p.bQ.length:Nat):Int)) then some 19 else(β ((eV N (fun q=>K3 N p q) 0):Option (Int⊕Unit)) (Sum.elim (fun q=>some q) (fun _=>(β ((eV N (fun q=>K4 N p q) 0):Option (Int⊕Unit)) (Sum.elim (fun q=>some q) (fun _=>some 0))))))))))))))))))))
theorem Xb (N:Nat) (p:aQ):cw (K5 N p) (pA p):=by
 unfold K5 pA;repeat'(with_reducible first|exact cK|exact Xa _ _ _|exact alL _ _ _|refine cO ?_ ?_|refine cP ?_ (fun _=>?_)|refine cQ (fun _=>?_)|refine cR ?_|refine cS (fun _=>?_) (fun _=>?_)|refine cX (fun _=>?_))
def lS (l:List aQ) (vv:Int):Option (Int⊕(Int⊕Unit)):=
 (bif(decide (vv<((l.length:Nat):Int))) then(β (aK l vv) (fun e=>(β (pz e.Name) (fun iv=>(bif(!iv) then some (ι (κ 6)) else(β (nq l 0 vv) (fun l1=>(β (rB l1 e.Name) (fun fv=>(bif fv.2 then some (ι (κ 7)) else(β (pA e) (fun cv=>(bif(cv !=0) then some (ι (κ cv)) else some (κ (U (vv+1)))))))))))))))) else some (ι (ι ())))
def nD (l:List aQ):Option Int:=
 (bif(decide (16<((l.length:Nat):Int))) then some 4 else(β ((bR (fun q=>lS l q) 0):Option (Int⊕Unit)) (Sum.elim (fun q=>some q) (fun _=>some 0))))
theorem K6 (l:List aQ) (r:Int) (h:nD l=some r):Holds Tryz.prog 51 [(aj bT) l] [] (I r) []:=by
 unfold nD at h;refine bO Tryz.func51 rfl Tryz.ntmps51 rfl rfl rfl (fun lim=>?_);refine ab 1 rfl (aD (au 1 rfl ?_));refine bS bT l aa rfl rfl rfl rfl rfl rfl ?_;refine ah 1 rfl ?_;refine ar (b:=decide (16<((l.length:Nat):Int))) rfl (fun c1=>?_) (fun c1=>?_)
 ·replace h:=ak h c1;refine ab 1 rfl (Ze ?_);have e2:=ae h;subst e2;refine ao ?_;refine aw aa rfl rfl ?_;exact(ag _ rfl)
 ·replace h:=an h c1;refine Zk ?_;obtain⟨y,qn,h⟩:=ai h;refine cx (X:=Unit) [] [] (fun _=>[]) (fun _=>[]) (fun w=>ι w=y) rfl rfl ?_ ?_
  ·skip;refine au 1 rfl ?_;refine bS bT l aa rfl rfl rfl rfl rfl rfl ?_;refine ah 1 rfl (bn ?_);refine cN (X:=Int) (Y:=Int⊕Unit) [0,11,12] [] (fun q=>[(13,I q)]) (fun q=>[]) (fun q=>lS l q) 0 [] qn ⟨rfl,rfl,rfl,rfl,rfl,⟨J _ rfl,trivial⟩,trivial⟩ (fun vv vR vz bW i_=>?_);change lS l vv=_ at bW;unfold lS at bW;refine ab 1 rfl (aD ?_);refine ar (b:=decide (vv<((l.length:Nat):Int))) rfl (fun c7=>?_) (fun c7=>?_)
   ·replace bW:=ak bW c7;refine Zk (aD (bn (au 1 rfl ?_)));obtain⟨e,fj,bW⟩:=ai bW;refine cq bT l vv e fj aa rfl rfl rfl rfl rfl rfl rfl rfl rfl ?_;refine ah 4 rfl (aD (au 2 rfl ?_));obtain⟨iv,fu,bW⟩:=ai bW;refine aW Vj (W7 e.Name iv fu) rfl rfl rfl rfl rfl rfl rfl ?_;refine ah 1 rfl ?_;refine ar (b:=!iv) rfl (fun eK=>?_) (fun eK=>?_)
    ·replace bW:=ak bW eK;refine ab 1 rfl (Ze (aZ (aJ ?_)));obtain⟨t,jI,hq⟩:=bf bW;subst hq;have hq:t=_:=i_;subst hq;refine aJ (aZ ?_);obtain⟨t1,h_,hq⟩:=cp jI;subst hq;have hq:=bZ h;replace hq:=ae hq;subst hq;refine aJ ?_;have dQ:=ae h_;subst dQ;refine ao ?_;refine aw aa rfl rfl ?_;exact(ag _ rfl)
    ·replace bW:=an bW eK;refine Zk (aD (au 2 rfl ?_));obtain⟨l1,ik,bW⟩:=ai bW;refine I0 bT l l1 0 vv ik (fun _=>rfl) aa rfl rfl rfl rfl rfl rfl rfl ⟨_,rfl⟩ rfl ?_;refine Zr 2 rfl ?_;obtain⟨fv,kv,bW⟩:=ai bW;refine aW aiI (alA l1 e.Name fv kv) rfl rfl rfl rfl rfl rfl rfl ?_;refine Zr 5 rfl ?_;refine aI (fun _=>by kernel_rfl) ?_;refine aq (ab 1 rfl ?_);refine ar (b:=fv.2) rfl (fun gw=>?_) (fun gw=>?_)
     ·replace bW:=ak bW gw;refine ab 1 rfl (Ze (aZ (aJ ?_)));obtain⟨t2,kx,hq⟩:=bf bW;subst hq;have hq:t2=_:=i_;subst hq;refine aJ (aZ ?_);obtain⟨t3,ko,hq⟩:=cp kx;subst hq;have hq:=bZ h;replace hq:=ae hq;subst hq;refine aJ ?_;have hU:=ae ko;subst hU;refine ao ?_;refine aw aa rfl rfl ?_;exact(ag _ rfl)
     ·replace bW:=an bW gw;refine Zk (au 1 rfl ?_);obtain⟨cv,oI,bW⟩:=ai bW;refine aW aiJ (alC e cv oI) rfl rfl rfl rfl rfl rfl rfl ?_;refine ah 1 rfl (ab 2 rfl ?_);refine ar (b:=cv !=0) rfl (fun ib=>?_) (fun ib=>?_)
      ·replace bW:=ak bW ib;refine ab 2 rfl (aR (aZ (aJ ?_)));obtain⟨t4,Cg,hq⟩:=bf bW;subst hq;have hq:t4=_:=i_;subst hq;refine aJ (aZ ?_);obtain⟨t5,oy,hq⟩:=cp Cg;subst hq;have hq:=bZ h;replace hq:=ae hq;subst hq;refine aJ ?_;have iz:=ae oy;subst iz;refine ao ?_;refine aw aa rfl rfl ?_;exact(ag _ rfl)
      ·replace bW:=an bW ib;refine cV (bP (aq (aY 2 rfl (aI nd ?_))));have jk:=ae bW;subst jk;refine aq ⟨rfl,U (vv+1),[],⟨rfl,rfl,rfl,rfl,rfl,⟨J _ rfl,trivial⟩,trivial⟩,i_⟩
   ·replace bW:=an bW c7;refine cD (bg ?_);obtain⟨t6,oE,hq⟩:=bf bW;subst hq;have hq:t6=_:=i_;subst hq;refine bg (cE ?_);have jh:=ae oE;refine aq ⟨rfl,(),[],⟨rfl,rfl,rfl,rfl,rfl,trivial,trivial⟩,jh⟩
  ·intro w sR;subst sR;replace h:=dX h;refine ab 1 rfl (aR ?_);have iy:=ae h;subst iy;refine ao ?_;refine aw aa rfl rfl ?_;exact(ag _ rfl)
def K7 (N:Nat) (l:List aQ) (vv:Int):Option (Int⊕(Int⊕Unit)):=
 (bif(decide (vv<((l.length:Nat):Int))) then(β (aK l vv) (fun e=>(β ((KP N) e.Name) (fun iv=>(bif(!iv) then some (ι (κ 6)) else(β (nq l 0 vv) (fun l1=>(β ((KS N) l1 e.Name) (fun fv=>(bif fv.2 then some (ι (κ 7)) else(β ((K5 N) e) (fun cv=>(bif(cv !=0) then some (ι (κ cv)) else some (κ (U (vv+1)))))))))))))))) else some (ι (ι ())))
theorem alM (N:Nat) (l:List aQ) (vv:Int):cw (K7 N l vv) (lS l vv):=by
 unfold K7 lS;repeat'(with_reducible first|exact cK|exact KQ _ _|exact W8 _ _ _|exact Xb _ _|refine cO ?_ ?_|refine cP ?_ (fun _=>?_)|refine cQ (fun _=>?_)|refine cR ?_|refine cS (fun _=>?_) (fun _=>?_)|refine cX (fun _=>?_))
def F5 (N:Nat) (l:List aQ):Option Int:=
 (bif(decide (16<((l.length:Nat):Int))) then some 4 else(β ((eV N (fun q=>K7 N l q) 0):Option (Int⊕Unit)) (Sum.elim (fun q=>some q) (fun _=>some 0))))
theorem K8 (N:Nat) (l:List aQ):cw (F5 N l) (nD l):=by
 unfold F5 nD;repeat'(with_reducible first|exact cK|exact KQ _ _|exact W8 _ _ _|exact Xb _ _|exact alM _ _ _|refine cO ?_ ?_|refine cP ?_ (fun _=>?_)|refine cQ (fun _=>?_)|refine cR ?_|refine cS (fun _=>?_) (fun _=>?_)|refine cX (fun _=>?_))
def wQ (n:Int):Bool:=
 (bif(decide (1≤n)) then(decide (n≤20000)) else false)
theorem Xc (n:Int) (r:Bool) (h:wQ n=r):Holds Tryz.prog 134 [I n] [] (B r) []:=by
 unfold wQ at h;refine bO Tryz.func134 rfl Tryz.ntmps134 rfl rfl rfl (fun lim=>?_);refine ab 1 rfl (au 3 rfl ?_);refine bu rfl rfl rfl (fun g1=>?_) (fun g1=>?_)
 ·rw [g1];replace h:=ak h g1;refine ah 4 rfl (aR ?_);have e2:=h;subst e2;refine ao ?_;refine aw aa rfl rfl ?_;exact(ag _ rfl)
 ·rw [g1];replace h:=an h g1;refine ah 4 rfl (aR ?_);have e3:=h;subst e3;refine ao ?_;refine aw aa rfl rfl ?_;exact(ag _ rfl)
def uC (n:Int):Bool:=
 (bif(decide (0≤n)) then(decide (n≤1000000)) else false)
theorem Xd (n:Int) (r:Bool) (h:uC n=r):Holds Tryz.prog 135 [I n] [] (B r) []:=by
 unfold uC at h;refine bO Tryz.func135 rfl Tryz.ntmps135 rfl rfl rfl (fun lim=>?_);refine ab 1 rfl (au 3 rfl ?_);refine bu rfl rfl rfl (fun g1=>?_) (fun g1=>?_)
 ·rw [g1];replace h:=ak h g1;refine ah 4 rfl (aR ?_);have e2:=h;subst e2;refine ao ?_;refine aw aa rfl rfl ?_;exact(ag _ rfl)
 ·rw [g1];replace h:=an h g1;refine ah 4 rfl (aR ?_);have e3:=h;subst e3;refine ao ?_;refine aw aa rfl rfl ?_;exact(ag _ rfl)
def qo (s:iX) (vr:iY):Int:=
 (bif(decide (s.eE<0)) then 9 else(bif(decide (20<s.eE)) then 9 else(bif(decide (s.Trim<0)) then 9 else(bif(decide (20<s.Trim)) then 9 else(bif(decide (s.fP<1)) then 9 else(bif(decide (2000<s.fP)) then 9 else(bif(!(wQ s.Step)) then 9 else(bif(decide (vr.fY<0)) then 9 else(bif(decide (1000<vr.fY)) then 9 else(bif(decide (vr.cU<0)) then 9 else(bif(decide (1000<vr.cU)) then 9 else(bif(!(uC vr.gq)) then 9 else 0))))))))))))
theorem alN (s:iX) (vr:iY) (r:Int) (h:qo s vr=r):Holds Tryz.prog 76 [Fg s,Fh vr] [] (I r) []:=by
 unfold qo at h;refine bO Tryz.func76 rfl Tryz.ntmps76 rfl rfl rfl (fun lim=>?_);refine ab 3 rfl (aD (au 4 rfl ?_));refine bu rfl rfl rfl (fun g1=>?_) (fun g1=>?_)
 ·rw [g1];replace h:=ak h g1;refine ah 14 rfl ?_;refine ar rfl (fun aN=>?_) Zx;clear aN;refine ab 1 rfl (Ze ?_);have e2:=h;subst e2;refine ao ?_;refine aw aa rfl rfl ?_;exact(ag _ rfl)
 ·rw [g1];replace h:=an h g1;refine Zr 5 rfl ?_;refine bu rfl rfl rfl (fun g3=>?_) (fun g3=>?_)
  ·rw [g3];replace h:=ak h g3;refine ah 9 rfl ?_;refine ar rfl (fun aN=>?_) Zx;clear aN;refine ab 1 rfl (Ze ?_);have e4:=h;subst e4;refine ao ?_;refine aw aa rfl rfl ?_;exact(ag _ rfl)
  ·rw [g3];replace h:=an h g3;refine Zr 5 rfl ?_;refine bu rfl rfl rfl (fun g5=>?_) (fun g5=>?_)
   ·rw [g5];replace h:=ak h g5;refine ah 4 rfl ?_;refine ar rfl (fun aN=>?_) Zx;clear aN;refine ab 1 rfl (Ze ?_);have e6:=h;subst e6;refine ao ?_;refine aw aa rfl rfl ?_;exact(ag _ rfl)
   ·rw [g5];replace h:=an h g5;refine ah 4 rfl ?_;refine ar (b:=decide (20<s.Trim)) rfl (fun c7=>?_) (fun c7=>?_)
    ·replace h:=ak h c7;refine ab 1 rfl (Ze ?_);have e8:=h;subst e8;refine ao ?_;refine aw aa rfl rfl ?_;exact(ag _ rfl)
    ·replace h:=an h c7;refine Zk (aD (au 4 rfl ?_));refine bu rfl rfl rfl (fun g9=>?_) (fun g9=>?_)
     ·rw [g9];replace h:=ak h g9;refine ah 10 rfl ?_;refine ar rfl (fun aN=>?_) Zx;clear aN;refine ab 1 rfl (Ze ?_);have dG:=h;subst dG;refine ao ?_;refine aw aa rfl rfl ?_;exact(ag _ rfl)
     ·rw [g9];replace h:=an h g9;refine Zr 5 rfl ?_;refine bu rfl rfl rfl (fun g11=>?_) (fun g11=>?_)
      ·rw [g11];replace h:=ak h g11;refine ah 5 rfl ?_;refine ar rfl (fun aN=>?_) Zx;clear aN;refine ab 1 rfl (Ze ?_);have fq:=h;subst fq;refine ao ?_;refine aw aa rfl rfl ?_;exact(ag _ rfl)
      ·rw [g11];replace h:=an h g11;refine Zr 2 rfl ?_;refine aW VF (Xc s.Step _ rfl) rfl rfl rfl rfl rfl rfl rfl ?_;refine ah 2 rfl ?_;refine ar (b:=!(wQ s.Step)) rfl (fun ia=>?_) (fun ia=>?_)
       ·replace h:=ak h ia;refine ab 1 rfl (Ze ?_);have dZ:=h;subst dZ;refine ao ?_;refine aw aa rfl rfl ?_;exact(ag _ rfl)
       ·replace h:=an h ia;refine Zk (aD (au 4 rfl ?_));refine bu rfl rfl rfl (fun g15=>?_) (fun g15=>?_)
        ·rw [g15];replace h:=ak h g15;refine ah 20 rfl ?_;refine ar rfl (fun aN=>?_) Zx;clear aN;refine ab 1 rfl (Ze ?_);have fw:=h;subst fw;refine ao ?_;refine aw aa rfl rfl ?_;exact(ag _ rfl)
        ·rw [g15];replace h:=an h g15;refine Zr 5 rfl ?_;refine bu rfl rfl rfl (fun g17=>?_) (fun g17=>?_)
         ·rw [g17];replace h:=ak h g17;refine ah 15 rfl ?_;refine ar rfl (fun aN=>?_) Zx;clear aN;refine ab 1 rfl (Ze ?_);have eR:=h;subst eR;refine ao ?_;refine aw aa rfl rfl ?_;exact(ag _ rfl)
         ·rw [g17];replace h:=an h g17;refine Zr 5 rfl ?_;refine bu rfl rfl rfl (fun g19=>?_) (fun g19=>?_)
          ·rw [g19];replace h:=ak h g19;refine ah 10 rfl ?_;refine ar rfl (fun aN=>?_) Zx;clear aN;refine ab 1 rfl (Ze ?_);have hZ:=h;subst hZ;refine ao ?_;refine aw aa rfl rfl ?_;exact(ag _ rfl)
          ·rw [g19];replace h:=an h g19;refine Zr 5 rfl ?_;refine bu rfl rfl rfl (fun g21=>?_) (fun g21=>?_)
           ·rw [g21];replace h:=ak h g21;refine ah 5 rfl ?_;refine ar rfl (fun aN=>?_) Zx;clear aN;refine ab 1 rfl (Ze ?_);have gK:=h;subst gK;refine ao ?_;refine aw aa rfl rfl ?_;exact(ag _ rfl)
           ·rw [g21];replace h:=an h g21;refine Zr 2 rfl ?_;refine aW VG (Xd vr.gq _ rfl) rfl rfl rfl rfl rfl rfl rfl ?_;refine ah 2 rfl ?_;refine ar (b:=!(uC vr.gq)) rfl (fun jN=>?_) (fun jN=>?_)
            ·replace h:=ak h jN;refine ab 1 rfl (Ze ?_);have iz:=h;subst iz;refine ao ?_;refine aw aa rfl rfl ?_;exact(ag _ rfl)
            ·replace h:=an h jN;refine Zk (ab 1 rfl (aR ?_));have jk:=h;subst jk;refine ao ?_;refine aw aa rfl rfl ?_;exact(ag _ rfl)
def zf (s:Sp):Int:=
 (bif(decide (s.b≤s.a)) then 0 else(BG ((BG s.b) -(BG s.a))))
theorem alO (s:Sp) (r:Int) (h:zf s=r):Holds Tryz.prog 94 [bU s] [] (VY r) []:=by
 unfold zf at h;refine bO Tryz.func94 rfl Tryz.ntmps94 rfl rfl rfl (fun lim=>?_);refine ab 2 rfl (aD (ab 5 rfl ?_));refine ar (b:=decide (s.b≤s.a)) rfl (fun c1=>?_) (fun c1=>?_)
 ·replace h:=ak h c1;refine ab 1 rfl (Ze ?_);have e2:=h;subst e2;refine ao ?_;refine aw aa rfl rfl ?_;exact(ag _ rfl)
 ·replace h:=an h c1;refine Zk (ab 8 rfl (aR ?_));have e3:=h;subst e3;refine ao ?_;refine aw aa rfl rfl ?_;exact(ag _ rfl)
def Cq (n:Int):Int:=
 (U (min n 9223372036854775807))
theorem alP (n:Int) (r:Int) (h:Cq n=r):Holds Tryz.prog 93 [VY n] [] (I r) []:=by
 unfold Cq at h;refine bO Tryz.func93 rfl Tryz.ntmps93 rfl rfl rfl (fun lim=>?_);refine ab 1 rfl (ab 4 rfl (aR ?_));have e1:=h;subst e1;refine ao ?_;refine aw aa rfl rfl ?_;exact(ag _ rfl)
def fH (s:Sp):Int:=
 (Cq (zf s))
theorem zg (s:Sp) (r:Int) (h:fH s=r):Holds Tryz.prog 46 [bU s] [] (I r) []:=by
 unfold fH at h;refine bO Tryz.func46 rfl Tryz.ntmps46 rfl rfl rfl (fun lim=>?_);refine ab 2 rfl (au 1 rfl ?_);refine aW aiG (alO s _ rfl) rfl rfl rfl rfl rfl rfl rfl ?_;refine aW aiF (alP (zf s) _ rfl) rfl rfl rfl rfl rfl rfl rfl ?_;refine ah 1 rfl (aR ?_);have e1:=h;subst e1;refine ao ?_;refine aw aa rfl rfl ?_;exact(ag _ rfl)
def nE (vr:aH) (vv:Int):Option (Int⊕(Bool⊕Unit)):=
 (bif(decide (vv<2)) then(β (aK [vr.X,vr.Y] vv) (fun e=>(bif(decide (e.a<(-600))) then some (ι (κ false)) else(bif(decide (600<e.b)) then some (ι (κ false)) else(bif(decide (e.b≤e.a)) then some (ι (κ false)) else some (κ (U (vv+1)))))))) else some (ι (ι ())))
def sU (vr:aH):Option Bool:=
 (β ((bR (fun q=>nE vr q) 0):Option (Bool⊕Unit)) (Sum.elim (fun q=>some q) (fun _=>some true)))
theorem Xe (vr:aH) (r:Bool) (h:sU vr=some r):Holds Tryz.prog 137 [a6 vr] [] (B r) []:=by
 unfold sU at h;refine bO Tryz.func137 rfl Tryz.ntmps137 rfl rfl rfl (fun lim=>?_);refine ab 2 rfl ?_;obtain⟨y,bV,h⟩:=ai h;refine cx (X:=Unit) [] [] (fun _=>[]) (fun _=>[]) (fun w=>ι w=y) rfl rfl ?_ ?_
 ·skip;refine ab 6 rfl (bn ?_);refine cN (X:=Int) (Y:=Bool⊕Unit) [9] [] (fun q=>[(10,I q)]) (fun q=>[]) (fun q=>nE vr q) 0 [] bV ⟨rfl,rfl,rfl,rfl,rfl,⟨J _ rfl,trivial⟩,trivial⟩ (fun vv vR vz aA cF=>?_);change nE vr vv=_ at aA;unfold nE at aA;refine ab 1 rfl (aD ?_);refine ar (b:=decide (vv<2)) rfl (fun c5=>?_) (fun c5=>?_)
  ·replace aA:=ak aA c5;refine Zk (aD (bn (aD (fJ cL ?_))));obtain⟨e,dD,aA⟩:=ai aA;refine yx bU [vr.X,vr.Y] vv e dD rfl (by intro j el hj;match j,hj with|0,hj=>(cases hj;rfl)|1,hj=>(cases hj;rfl)|(_+2),hj=>(exact absurd hj (by simp))) aa rfl rfl rfl rfl rfl rfl rfl rfl ?_
   refine ah 2 rfl (au 4 rfl ?_);refine bu rfl rfl rfl (fun g7=>?_) (fun g7=>?_)
   ·rw [g7];replace aA:=ak aA g7;refine ah 11 rfl ?_;refine ar rfl (fun aN=>?_) Zx;clear aN;refine ab 1 rfl (aR (aZ (aJ ?_)));obtain⟨t,ky,hq⟩:=bf aA;subst hq;have hq:t=_:=cF;subst hq;refine aJ (aZ ?_);obtain⟨t1,iu,hq⟩:=cp ky;subst hq;have hq:=bZ h;replace hq:=ae hq;subst hq;refine aJ ?_;have dG:=ae iu;subst dG;refine ao ?_;refine aw aa rfl rfl ?_;exact(ag _ rfl)
   ·rw [g7];replace aA:=an aA g7;refine Zr 5 rfl ?_;refine bu rfl rfl rfl (fun g11=>?_) (fun g11=>?_)
    ·rw [g11];replace aA:=ak aA g11;refine ah 6 rfl ?_;refine ar rfl (fun aN=>?_) Zx;clear aN;refine ab 1 rfl (aR (aZ (aJ ?_)));obtain⟨t2,h_,hq⟩:=bf aA;subst hq;have hq:t2=_:=cF;subst hq;refine aJ (aZ ?_);obtain⟨t3,kn,hq⟩:=cp h_;subst hq;have hq:=bZ h;replace hq:=ae hq;subst hq;refine aJ ?_;have dZ:=ae kn;subst dZ;refine ao ?_;refine aw aa rfl rfl ?_;exact(ag _ rfl)
    ·rw [g11];replace aA:=an aA g11;refine ah 6 rfl ?_;refine ar (b:=decide (e.b≤e.a)) rfl (fun fO=>?_) (fun fO=>?_)
     ·replace aA:=ak aA fO;refine ab 1 rfl (aR (aZ (aJ ?_)));obtain⟨t4,lP,hq⟩:=bf aA;subst hq;have hq:t4=_:=cF;subst hq;refine aJ (aZ ?_);obtain⟨t5,kx,hq⟩:=cp lP;subst hq;have hq:=bZ h;replace hq:=ae hq;subst hq;refine aJ ?_;have eR:=ae kx;subst eR;refine ao ?_;refine aw aa rfl rfl ?_;exact(ag _ rfl)
     ·replace aA:=an aA fO;refine cV (bP (aq (aY 2 rfl (aI nd ?_))));have hU:=ae aA;subst hU;refine aq ⟨rfl,U (vv+1),[],⟨rfl,rfl,rfl,rfl,rfl,⟨J _ rfl,trivial⟩,trivial⟩,cF⟩
  ·replace aA:=an aA c5;refine cD (bg ?_);obtain⟨t6,kQ,hq⟩:=bf aA;subst hq;have hq:t6=_:=cF;subst hq;refine bg (cE ?_);have iw:=ae kQ;refine aq ⟨rfl,(),[],⟨rfl,rfl,rfl,rfl,rfl,trivial,trivial⟩,iw⟩
 ·intro w dP;subst dP;replace h:=dX h;refine ab 1 rfl (aR ?_);have gK:=ae h;subst gK;refine ao ?_;refine aw aa rfl rfl ?_;exact(ag _ rfl)
def K9 (N:Nat) (vr:aH) (vv:Int):Option (Int⊕(Bool⊕Unit)):=
 (bif(decide (vv<2)) then(β (aK [vr.X,vr.Y] vv) (fun e=>(bif(decide (e.a<(-600))) then some (ι (κ false)) else(bif(decide (600<e.b)) then some (ι (κ false)) else(bif(decide (e.b≤e.a)) then some (ι (κ false)) else some (κ (U (vv+1)))))))) else some (ι (ι ())))
theorem alQ (N:Nat) (vr:aH) (vv:Int):cw (K9 N vr vv) (nE vr vv):=by
 unfold K9 nE;repeat'(with_reducible first|exact cK|refine cO ?_ ?_|refine cP ?_ (fun _=>?_)|refine cQ (fun _=>?_)|refine cR ?_|refine cS (fun _=>?_) (fun _=>?_)|refine cX (fun _=>?_))
def F6 (N:Nat) (vr:aH):Option Bool:=
 (β ((eV N (fun q=>K9 N vr q) 0):Option (Bool⊕Unit)) (Sum.elim (fun q=>some q) (fun _=>some true)))
theorem zh (N:Nat) (vr:aH):cw (F6 N vr) (sU vr):=by
 unfold F6 sU;repeat'(with_reducible first|exact cK|exact alQ _ _ _|refine cO ?_ ?_|refine cP ?_ (fun _=>?_)|refine cQ (fun _=>?_)|refine cR ?_|refine cS (fun _=>?_) (fun _=>?_)|refine cX (fun _=>?_))
def gh (kind:Int):Bool:=
 (bif(kind==2) then true else(kind==3))
theorem F7 (kind:Int) (r:Bool) (h:gh kind=r):Holds Tryz.prog 140 [I kind] [] (B r) []:=by
 unfold gh at h;refine bO Tryz.func140 rfl Tryz.ntmps140 rfl rfl rfl (fun lim=>?_);refine ab 1 rfl (au 3 rfl ?_);refine bu rfl rfl rfl (fun g1=>?_) (fun g1=>?_)
 ·rw [g1];replace h:=ak h g1;refine ah 4 rfl (aR ?_);have e2:=h;subst e2;refine ao ?_;refine aw aa rfl rfl ?_;exact(ag _ rfl)
 ·rw [g1];replace h:=an h g1;refine ah 4 rfl (aR ?_);have e3:=h;subst e3;refine ao ?_;refine aw aa rfl rfl ?_;exact(ag _ rfl)
def pB (vr:aH) (qp:Int):Sp:=
 (bif(qp==2) then vr.X else vr.Y)
theorem Xf (vr:aH) (qp:Int) (r:Sp) (h:pB vr qp=r):Holds Tryz.prog 155 [a6 vr,I qp] [] (bU r) []:=by
 unfold pB at h;refine bO Tryz.func155 rfl Tryz.ntmps155 rfl rfl rfl (fun lim=>?_);refine ab 2 rfl (aD (ab 2 rfl ?_));refine ar (b:=qp==2) rfl (fun c1=>?_) (fun c1=>?_)
 ·replace h:=ak h c1;refine ab 3 rfl (Ze ?_);have e2:=h;subst e2;refine ao ?_;refine aw aa rfl rfl ?_;exact(ag _ rfl)
 ·replace h:=an h c1;refine Zk (ab 3 rfl (aR ?_));have e3:=h;subst e3;refine ao ?_;refine aw aa rfl rfl ?_;exact(ag _ rfl)
def zi (vr:aH) (qp:Int) (s:Sp):aH:=
 (bif(qp==2) then(⟨s,vr.Y⟩:aH) else(⟨vr.X,s⟩:aH))
theorem K_ (vr:aH) (qp:Int) (s:Sp) (r:aH) (h:zi vr qp s=r):Holds Tryz.prog 172 [a6 vr,I qp,bU s] [] (a6 r) []:=by
 unfold zi at h;refine bO Tryz.func172 rfl Tryz.ntmps172 rfl rfl rfl (fun lim=>?_);refine ab 3 rfl (aD (ab 2 rfl ?_));refine ar (b:=qp==2) rfl (fun c1=>?_) (fun c1=>?_)
 ·replace h:=ak h c1;refine iS 3 rfl (ab 2 rfl (aR ?_));have e2:=h;subst e2;refine ao ?_;refine aw aa rfl rfl ?_;exact(ag _ rfl)
 ·replace h:=an h c1;refine iS 3 rfl (ab 2 rfl (aR ?_));have e3:=h;subst e3;refine ao ?_;refine aw aa rfl rfl ?_;exact(ag _ rfl)
def kS (vr:aH) (n:eL) (kerf:Int):(aH×aH×aH):=
 (cH (pB vr n.Kind) (fun av=>(cH (zi vr n.Kind (⟨av.a,n.At⟩:Sp)) (fun wv=>(cH (zi vr n.Kind (⟨n.At,min (U (n.At+kerf)) av.b⟩:Sp)) (fun sV=>(cH (zi vr n.Kind (⟨min (U (n.At+kerf)) av.b,av.b⟩:Sp)) (fun La=>(wv,sV,La)))))))))
theorem Lb (vr:aH) (n:eL) (kerf:Int) (r:aH×aH×aH) (h:kS vr n kerf=r):Holds Tryz.prog 141 [a6 vr,de n,I kerf] [] (.cz [a6 r.1,a6 r.2.1,a6 r.2.2]) []:=by
 unfold kS at h;refine bO Tryz.func141 rfl Tryz.ntmps141 rfl rfl rfl (fun lim=>?_);refine ab 5 rfl (au 3 rfl ?_);obtain⟨av,cj,h⟩:=dT h;refine aW VJ (Xf vr n.Kind av cj) rfl rfl rfl rfl rfl rfl rfl ?_;refine ah 2 rfl (ab 8 rfl (au 8 rfl ?_));obtain⟨wv,g_,h⟩:=dT h;refine aW Jb (K_ vr n.Kind (⟨av.a,n.At⟩:Sp) wv g_) rfl rfl rfl rfl rfl rfl rfl ?_;refine ah 1 rfl (au 7 rfl ?_);obtain⟨sV,eB,h⟩:=dT h;refine aW Jb (K_ vr n.Kind (⟨n.At,min (U (n.At+kerf)) av.b⟩:Sp) sV eB) rfl rfl rfl rfl rfl rfl rfl ?_;refine ah 1 rfl (au 7 rfl ?_);obtain⟨La,fy,h⟩:=dT h;refine aW Jb (K_ vr n.Kind (⟨min (U (n.At+kerf)) av.b,av.b⟩:Sp) La fy) rfl rfl rfl rfl rfl rfl rfl ?_;refine ah 1 rfl (au 6 rfl ?_);refine aI (fun _=>by kernel_rfl) ?_;refine aq (aR ?_);have e5:=h;subst e5;refine ao ?_;refine aw aa rfl rfl ?_;exact ag _ rfl
def fI (n:eL) (x:dm):Int:=
 (cH ((bif(decide (n.Kind<0)) then(κ 10) else(bif(decide (3<n.Kind)) then(κ 10) else(bif(n.Kind==0) then(bif(n.At !=0) then(κ 10) else(ι ())) else(ι ())))):Int⊕Unit) (Sum.elim (fun q=>q) (fun _=>(bif(decide (64<x.level)) then 28 else(bif(gh n.Kind) then(cH (pB x.bh n.Kind) (fun av=>(bif(decide (n.At≤av.a)) then 20 else(bif(decide (av.b≤n.At)) then 20 else 0)))) else 0)))))
theorem Xg (n:eL) (x:dm) (r:Int) (h:fI n x=r):Holds Tryz.prog 138 [de n,jg x] [] (I r) []:=by
 unfold fI at h;refine bO Tryz.func138 rfl Tryz.ntmps138 rfl rfl rfl (fun lim=>?_);refine ab 3 rfl ?_;obtain⟨y,bV,h⟩:=dT h;refine cx (X:=Unit) [2,3] [2,3] (fun _=>[]) (fun _=>[]) (fun w=>ι w=y) rfl rfl ?_ ?_
 ·skip;refine au 4 rfl ?_;refine bu rfl rfl rfl (fun g3=>?_) (fun g3=>?_)
  ·rw [g3];replace bV:=ak bV g3;refine ah 14 rfl ?_;refine ar rfl (fun aN=>?_) Zx;clear aN;refine ab 1 rfl (aR ?_);subst bV;have hn4:=bZ h;refine aJ ?_;have e5:=hn4;subst e5;refine ao ?_;refine aw aa rfl rfl ?_;exact(ag _ rfl)
  ·rw [g3];replace bV:=an bV g3;refine Zr 5 rfl ?_;refine bu rfl rfl rfl (fun g6=>?_) (fun g6=>?_)
   ·rw [g6];replace bV:=ak bV g6;refine ah 9 rfl ?_;refine ar rfl (fun aN=>?_) Zx;clear aN;refine ab 1 rfl (aR ?_);subst bV;have hn7:=bZ h;refine aJ ?_;have e8:=hn7;subst e8;refine ao ?_;refine aw aa rfl rfl ?_;exact(ag _ rfl)
   ·rw [g6];replace bV:=an bV g6;refine Zr 4 rfl ?_;refine bu rfl rfl rfl (fun g9=>?_) (fun g9=>?_)
    ·rw [g9];replace bV:=ak bV g9;refine ah 5 rfl ?_;refine ar (b:=n.At !=0) rfl (fun eK=>?_) (fun eK=>?_)
     ·replace bV:=ak bV eK;refine ab 1 rfl (aR ?_);subst bV;have jI:=bZ h;refine aJ ?_;have fq:=jI;subst fq;refine ao ?_;refine aw aa rfl rfl ?_;exact(ag _ rfl)
     ·replace bV:=an bV eK;refine cV ?_;have dQ:=bV;refine aq ⟨rfl,(),[(2,some 2),(3,some 3)],⟨rfl,rfl,rfl,rfl,rfl,trivial,trivial⟩,dQ⟩
    ·rw [g9];replace bV:=an bV g9;refine ah 5 rfl ?_;refine ar rfl Zx (fun aN=>?_);clear aN;refine cV ?_;have dZ:=bV;refine aq ⟨rfl,(),[(2,some 2),(3,some 3)],⟨rfl,rfl,rfl,rfl,rfl,trivial,trivial⟩,dZ⟩
 ·intro w dP;subst dP;replace h:=dX h;refine aD (ab 3 rfl ?_);refine ar (b:=decide (64<x.level)) rfl (fun fO=>?_) (fun fO=>?_)
  ·replace h:=ak h fO;refine ab 1 rfl (Ze ?_);have fw:=h;subst fw;refine ao ?_;refine aw aa rfl rfl ?_;exact(ag _ rfl)
  ·replace h:=an h fO;refine Zk (aD (au 2 rfl ?_));refine aW Fe (F7 n.Kind _ rfl) rfl rfl rfl rfl rfl rfl rfl ?_;refine Zn ?_;refine ar (b:=gh n.Kind) rfl (fun eY=>?_) (fun eY=>?_)
   ·replace h:=ak h eY;refine au 4 rfl ?_;obtain⟨av,pZ,h⟩:=dT h;refine aW VJ (Xf x.bh n.Kind av pZ) rfl rfl rfl rfl rfl rfl rfl ?_;refine ah 2 rfl (au 6 rfl ?_);refine bu rfl rfl rfl (fun g19=>?_) (fun g19=>?_)
    ·rw [g19];replace h:=ak h g19;refine ah 6 rfl ?_;refine ar rfl (fun aN=>?_) Zx;clear aN;refine ab 1 rfl (Ze ?_);have hZ:=h;subst hZ;refine ao ?_;refine aw aa rfl rfl ?_;exact(ag _ rfl)
    ·rw [g19];replace h:=an h g19;refine ah 6 rfl ?_;refine ar (b:=decide (av.b≤n.At)) rfl (fun ib=>?_) (fun ib=>?_)
     ·replace h:=ak h ib;refine ab 1 rfl (Ze ?_);have gK:=h;subst gK;refine ao ?_;refine aw aa rfl rfl ?_;exact(ag _ rfl)
     ·replace h:=an h ib;refine Zk (ab 1 rfl (aR ?_));have jm:=h;subst jm;refine ao ?_;refine aw aa rfl rfl ?_;exact(ag _ rfl)
   ·replace h:=an h eY;refine Zk (ab 1 rfl (aR ?_));have iz:=h;subst iz;refine ao ?_;refine aw aa rfl rfl ?_;exact(ag _ rfl)
theorem Lc (p:dq) (kerf:Int):Holds Tryz.prog 80 [oi p,I kerf] [] (.db 139 [] [.ref 999 0 0,.ref 998 0 0]) [(999,some ⟨39,5,[oi p]⟩),(998,some ⟨3,1,[I kerf]⟩)]:=by
 refine bO Tryz.func80 rfl Tryz.ntmps80 rfl rfl rfl (fun lim=>?_);refine ab 3 rfl (ab 2 rfl (aR (ao ?_)));exact eD [(999,some 2),(998,some 3)] aa rfl rfl rfl rfl ⟨rfl,trivial,⟨rfl,rfl,rfl⟩,⟨rfl,rfl,rfl⟩,trivial⟩ ⟨⟨_,rfl,rfl,rfl,.inl ⟨rfl,aP rfl⟩⟩,⟨_,rfl,rfl,rfl,.inl ⟨rfl,aP rfl⟩⟩,trivial⟩
def rC (p0:aH) (cI:Int):Int:=
 (bif(decide (cI<0)) then 8 else(bif(decide (16≤cI)) then 8 else 0))
theorem alT (p0:aH) (cI:Int) (r:Int) (h:rC p0 cI=r):Holds Tryz.prog 79 [a6 p0,I cI] [] (I r) []:=by
 unfold rC at h;refine bO Tryz.func79 rfl Tryz.ntmps79 rfl rfl rfl (fun lim=>?_);refine ab 2 rfl (aD (au 3 rfl ?_));refine bu rfl rfl rfl (fun g1=>?_) (fun g1=>?_)
 ·rw [g1];replace h:=ak h g1;refine ah 3 rfl ?_;refine ar rfl (fun aN=>?_) Zx;clear aN;refine ab 1 rfl (Ze ?_);have e2:=h;subst e2;refine ao ?_;refine aw aa rfl rfl ?_;exact(ag _ rfl)
 ·rw [g1];replace h:=an h g1;refine ah 3 rfl ?_;refine ar (b:=decide (16≤cI)) rfl (fun c3=>?_) (fun c3=>?_)
  ·replace h:=ak h c3;refine ab 1 rfl (Ze ?_);have e4:=h;subst e4;refine ao ?_;refine aw aa rfl rfl ?_;exact(ag _ rfl)
  ·replace h:=an h c3;refine Zk (ab 1 rfl (aR ?_));have e5:=h;subst e5;refine ao ?_;refine aw aa rfl rfl ?_;exact(ag _ rfl)
def uD (vr:aH) (cI:Int) (p2:List aQ):Option Int:=
 (bif(decide (cI<0)) then some 8 else(bif(decide (((p2.length:Nat):Int)≤cI)) then some 8 else(β (aK p2 cI) (fun e=>(cH (jn e) (fun gv=>(bif((fH vr.X)!=gv.1) then(bif((fH vr.X)!=gv.2) then some 20 else(bif((fH vr.Y)!=gv.1) then some 20 else some 0)) else(bif((fH vr.Y)!=gv.2) then(bif((fH vr.X)!=gv.2) then some 20 else(bif((fH vr.Y)!=gv.1) then some 20 else some 0)) else some 0))))))))
theorem alU (vr:aH) (cI:Int) (p2:List aQ) (r:Int) (h:uD vr cI p2=some r):Holds Tryz.prog 136 [a6 vr,I cI,.vp [aj bT p2]] [] (I r) []:=by
 unfold uD at h;refine bO Tryz.func136 rfl Tryz.ntmps136 rfl rfl rfl (fun lim=>?_);refine ab 2 rfl (aD (au 3 rfl ?_));refine bu rfl rfl rfl (fun g1=>?_) (fun g1=>?_)
 ·rw [g1];replace h:=ak h g1;refine ah 5 rfl ?_;refine ar rfl (fun aN=>?_) Zx;clear aN;refine ab 1 rfl (Ze ?_);have e2:=ae h;subst e2;refine ao ?_;refine aw aa rfl rfl ?_;exact(ag _ rfl)
 ·rw [g1];replace h:=an h g1;refine Zr 2 rfl ?_;refine bS bT p2 aa rfl rfl rfl rfl rfl rfl ?_;refine ah 2 rfl ?_;refine ar (b:=decide (((p2.length:Nat):Int)≤cI)) rfl (fun c3=>?_) (fun c3=>?_)
  ·replace h:=ak h c3;refine ab 1 rfl (Ze ?_);have e4:=ae h;subst e4;refine ao ?_;refine aw aa rfl rfl ?_;exact(ag _ rfl)
  ·replace h:=an h c3;refine Zk (au 2 rfl ?_);obtain⟨e,gg,h⟩:=ai h;refine cq bT p2 cI e gg aa rfl rfl rfl rfl rfl rfl rfl rfl rfl ?_;refine Zr 1 rfl ?_;obtain⟨gv,dD,h⟩:=dT h;refine aW E_ (F0 e gv dD) rfl rfl rfl rfl rfl rfl rfl ?_;refine ah 5 rfl (au 2 rfl ?_);refine aW yC (zg vr.X _ rfl) rfl rfl rfl rfl rfl rfl rfl ?_;refine Zr 2 rfl ?_;refine aW yC (zg vr.Y _ rfl) rfl rfl rfl rfl rfl rfl rfl ?_;refine Zr 2 rfl ?_;refine aI (fun _=>by kernel_rfl) ?_;refine aq (aD (au 4 rfl ?_));refine bu rfl rfl rfl (fun g7=>?_) (fun g7=>?_)
   ·rw [g7];replace h:=ak h g7;refine Zr 9 rfl ?_;refine bu rfl rfl rfl (fun g8=>?_) (fun g8=>?_)
    ·rw [g8];replace h:=ak h g8;refine ah 5 rfl ?_;refine ar rfl (fun aN=>?_) Zx;clear aN;refine ab 1 rfl (Ze ?_);have e9:=ae h;subst e9;refine ao ?_;refine aw aa rfl rfl ?_;exact(ag _ rfl)
    ·rw [g8];replace h:=an h g8;refine ah 5 rfl ?_;refine ar (b:=(fH vr.Y)!=gv.1) rfl (fun eK=>?_) (fun eK=>?_)
     ·replace h:=ak h eK;refine ab 1 rfl (Ze ?_);have fM:=ae h;subst fM;refine ao ?_;refine aw aa rfl rfl ?_;exact(ag _ rfl)
     ·replace h:=an h eK;refine Zk (ab 1 rfl (aR ?_));have fq:=ae h;subst fq;refine ao ?_;refine aw aa rfl rfl ?_;exact(ag _ rfl)
   ·rw [g7];replace h:=an h g7;refine Zr 5 rfl ?_;refine bu rfl rfl rfl (fun g13=>?_) (fun g13=>?_)
    ·rw [g13];replace h:=ak h g13;refine Zr 4 rfl ?_;refine bu rfl rfl rfl (fun g14=>?_) (fun g14=>?_)
     ·rw [g14];replace h:=ak h g14;refine ah 5 rfl ?_;refine ar rfl (fun aN=>?_) Zx;clear aN;refine ab 1 rfl (Ze ?_);have fx:=ae h;subst fx;refine ao ?_;refine aw aa rfl rfl ?_;exact(ag _ rfl)
     ·rw [g14];replace h:=an h g14;refine ah 5 rfl ?_;refine ar (b:=(fH vr.Y)!=gv.1) rfl (fun gw=>?_) (fun gw=>?_)
      ·replace h:=ak h gw;refine ab 1 rfl (Ze ?_);have iA:=ae h;subst iA;refine ao ?_;refine aw aa rfl rfl ?_;exact(ag _ rfl)
      ·replace h:=an h gw;refine Zk (ab 1 rfl (aR ?_));have eR:=ae h;subst eR;refine ao ?_;refine aw aa rfl rfl ?_;exact(ag _ rfl)
    ·rw [g13];replace h:=an h g13;refine ah 9 rfl ?_;refine ar rfl Zx (fun aN=>?_);clear aN;refine Zk (ab 1 rfl (aR ?_));have hU:=ae h;subst hU;refine ao ?_;refine aw aa rfl rfl ?_;exact(ag _ rfl)
def Ld (N:Nat) (vr:aH) (cI:Int) (p2:List aQ):Option Int:=
 (bif(decide (cI<0)) then some 8 else(bif(decide (((p2.length:Nat):Int)≤cI)) then some 8 else(β (aK p2 cI) (fun e=>(cH (jn e) (fun gv=>(bif((fH vr.X)!=gv.1) then(bif((fH vr.X)!=gv.2) then some 20 else(bif((fH vr.Y)!=gv.1) then some 20 else some 0)) else(bif((fH vr.Y)!=gv.2) then(bif((fH vr.X)!=gv.2) then some 20 else(bif((fH vr.Y)!=gv.1) then some 20 else some 0)) else some 0))))))))
theorem Le (N:Nat) (vr:aH) (cI:Int) (p2:List aQ):cw (Ld N vr cI p2) (uD vr cI p2):=by
 unfold Ld uD;repeat'(with_reducible first|exact cK|refine cO ?_ ?_|refine cP ?_ (fun _=>?_)|refine cQ (fun _=>?_)|refine cR ?_|refine cS (fun _=>?_) (fun _=>?_)|refine cX (fun _=>?_))
end Go.Proofs.YtccnpbnokndeeaaGreatDoor
end
