/- Texts for the law: A1i, P1, P2, P3. -/
import Derived.Test.YtccnpbnokndeeaaGreatDoorM11
noncomputable section
open Option renaming bind→β
open Sum renaming inr→ι,inl→κ
namespace Go.Proofs.YtccnpbnokndeeaaGreatDoor
open Go Go.Ab
set_option maxRecDepth 20000
set_option maxHeartbeats 1000000
def uT (s:List Int) (vv:Int) (aB:Int):Option (Int⊕(Int⊕Unit)):=
 (bif(decide (aB<((s.length:Nat):Int))) then(β (aK s aB) (fun e=>(bif(vv==e) then some (ι (κ aB)) else some (κ (U (aB+1)))))) else some (ι (ι ())))
def GN (s:List Int) (vv:Int):Option Int:=
 (β ((bR (fun q=>uT s vv q) 0):Option (Int⊕Unit)) (Sum.elim (fun q=>some q) (fun _=>some (-1))))
theorem aob (s:List Int) (vv:Int) (r:Int) (h:GN s vv=some r):Holds Tryz.prog 105 [(aj I) s,I vv] [] (I r) []:=by
 unfold GN at h;refine bO Tryz.func105 rfl Tryz.ntmps105 rfl rfl rfl (fun lim=>?_);refine ab 1 rfl ?_;obtain⟨y,bV,h⟩:=ai h;refine cx (X:=Unit) [] [] (fun _=>[]) (fun _=>[]) (fun w=>ι w=y) rfl rfl ?_ ?_
 ·skip;refine au 1 rfl ?_;refine bS I s aa rfl rfl rfl rfl rfl rfl ?_;refine ah 1 rfl (bn ?_);refine cN (X:=Int) (Y:=Int⊕Unit) [0,1,7] [] (fun q=>[(8,I q)]) (fun q=>[]) (fun q=>uT s vv q) 0 [] bV ⟨rfl,rfl,rfl,rfl,rfl,⟨J _ rfl,trivial⟩,trivial⟩ (fun aB vR vz aA cF=>?_);change uT s vv aB=_ at aA;unfold uT at aA;refine ab 1 rfl (aD ?_);refine ar (b:=decide (aB<((s.length:Nat):Int))) rfl (fun c5=>?_) (fun c5=>?_)
  ·replace aA:=ak aA c5;refine Zk (aD (bn (ab 2 rfl (au 3 rfl ?_))));obtain⟨e,dD,aA⟩:=ai aA;refine cq I s aB e dD aa rfl rfl rfl rfl rfl rfl rfl rfl rfl ?_;refine ah 2 rfl ?_;refine ar (b:=vv==e) rfl (fun c7=>?_) (fun c7=>?_)
   ·replace aA:=ak aA c7;refine ab 2 rfl (aR (aZ (aJ ?_)));obtain⟨t,ky,hq⟩:=bf aA;subst hq;have hq:t=_:=cF;subst hq;refine aJ (aZ ?_);obtain⟨t1,iu,hq⟩:=cp ky;subst hq;have hq:=bZ h;replace hq:=ae hq;subst hq;refine aJ ?_;have dG:=ae iu;subst dG;refine ao ?_;refine aw aa rfl rfl ?_;exact(ag _ rfl)
   ·replace aA:=an aA c7;refine cV (bP (aq (aY 2 rfl (aI nd ?_))));have fM:=ae aA;subst fM;refine aq ⟨rfl,U (aB+1),[],⟨rfl,rfl,rfl,rfl,rfl,⟨J _ rfl,trivial⟩,trivial⟩,cF⟩
  ·replace aA:=an aA c5;refine cD (bg ?_);obtain⟨t2,h_,hq⟩:=bf aA;subst hq;have hq:t2=_:=cF;subst hq;refine bg (cE ?_);have dQ:=ae h_;refine aq ⟨rfl,(),[],⟨rfl,rfl,rfl,rfl,rfl,trivial,trivial⟩,dQ⟩
 ·intro w dP;subst dP;replace h:=dX h;refine ab 1 rfl (aR ?_);have dZ:=ae h;subst dZ;refine ao ?_;refine aw aa rfl rfl ?_;exact(ag _ rfl)
def De (s:List Int) (vv:Int):Option Bool:=
 (β (GN s vv) (fun iv=>some (decide (0≤iv))))
theorem aoc (s:List Int) (vv:Int) (r:Bool) (h:De s vv=some r):Holds Tryz.prog 55 [(aj I) s,I vv] [] (B r) []:=by
 unfold De at h;refine bO Tryz.func55 rfl Tryz.ntmps55 rfl rfl rfl (fun lim=>?_);refine ab 1 rfl (au 2 rfl ?_);obtain⟨iv,cj,h⟩:=ai h;refine aW aiL (aob s vv iv cj) rfl rfl rfl rfl rfl rfl rfl ?_;refine ah 2 rfl (aR ?_);have e2:=ae h;subst e2;refine ao ?_;refine aw aa rfl rfl ?_;exact(ag _ rfl)
def oS (s:Sp) (n:Int):Bool:=
 (bif(decide (0≤s.a)) then(bif(decide (s.a≤n)) then(bif(decide (0≤s.b)) then(decide (s.b≤n)) else false) else false) else false)
theorem Na (s:Sp) (n:Int) (r:Bool) (h:oS s n=r):Holds Tryz.prog 57 [bU s,I n] [] (B r) []:=by
 unfold oS at h;refine bO Tryz.func57 rfl Tryz.ntmps57 rfl rfl rfl (fun lim=>?_);refine ab 2 rfl (au 4 rfl ?_);refine bu rfl rfl rfl (fun g1=>?_) (fun g1=>?_)
 ·rw [g1];replace h:=ak h g1;refine Zr 6 rfl ?_;refine bu rfl rfl rfl (fun g2=>?_) (fun g2=>?_)
  ·rw [g2];replace h:=ak h g2;refine Zr 5 rfl ?_;refine bu rfl rfl rfl (fun g3=>?_) (fun g3=>?_)
   ·rw [g3];replace h:=ak h g3;refine ah 6 rfl (aR ?_);have e4:=h;subst e4;refine ao ?_;refine aw aa rfl rfl ?_;exact(ag _ rfl)
   ·rw [g3];replace h:=an h g3;refine ah 6 rfl (aR ?_);have e5:=h;subst e5;refine ao ?_;refine aw aa rfl rfl ?_;exact(ag _ rfl)
  ·rw [g2];replace h:=an h g2;refine ah 11 rfl (aR ?_);have e6:=h;subst e6;refine ao ?_;refine aw aa rfl rfl ?_;exact(ag _ rfl)
 ·rw [g1];replace h:=an h g1;refine ah 17 rfl (aR ?_);have e7:=h;subst e7;refine ao ?_;refine aw aa rfl rfl ?_;exact(ag _ rfl)
def AA (n:Int):Bool:=
 (bif(decide (0≤n)) then(decide (n≤20000)) else false)
theorem Ys (n:Int) (r:Bool) (h:AA n=r):Holds Tryz.prog 58 [I n] [] (B r) []:=by
 unfold AA at h;refine bO Tryz.func58 rfl Tryz.ntmps58 rfl rfl rfl (fun lim=>?_);refine ab 1 rfl (au 3 rfl ?_);refine bu rfl rfl rfl (fun g1=>?_) (fun g1=>?_)
 ·rw [g1];replace h:=ak h g1;refine ah 4 rfl (aR ?_);have e2:=h;subst e2;refine ao ?_;refine aw aa rfl rfl ?_;exact(ag _ rfl)
 ·rw [g1];replace h:=an h g1;refine ah 4 rfl (aR ?_);have e3:=h;subst e3;refine ao ?_;refine aw aa rfl rfl ?_;exact(ag _ rfl)
def tx (b:ma) (vv:Int):Option (Int⊕(Int⊕Unit)):=
 (bif(decide (vv<((b.dA.length:Nat):Int))) then(β (aK b.dA vv) (fun e1=>(bif(!(oS e1.b.x (fA b.a8.x))) then some (ι (κ 9)) else(bif(!(oS e1.b.y (fA b.a8.y))) then some (ι (κ 9)) else(bif(!(oS e1.b.z (fA b.a8.z))) then some (ι (κ 9)) else some (κ (U (vv+1)))))))) else some (ι (ι ())))
def AB (b:ma) (c:List aQ):Option Int:=
 (β (nD c) (fun cv=>(bif(cv !=0) then some cv else(β (rR b.Id 66) (fun iv=>(bif(!iv) then some 6 else(β (rR b.Log 76) (fun Nb=>(bif(!Nb) then some 6 else(β (pz b.kO) (fun GO=>(bif(!GO) then some 6 else(bif(decide (b.jf<0)) then some 8 else(bif(decide (((c.length:Nat):Int)≤b.jf)) then some 8 else(β (Au b.a8) (fun GP=>(bif(!GP) then some 19 else(β (aK c b.jf) (fun e=>(cH (jn e) (fun gv=>(β ((bif(!((fA b.a8.x)==gv.1&&((fA b.a8.y)==gv.2&&true))) then(bif(!((fA b.a8.x)==gv.2&&((fA b.a8.y)==gv.1&&true))) then some (κ 19) else some (ι ())) else some (ι ())):Option (Int⊕Unit)) (Sum.elim (fun q=>some q) (fun _=>(β (De e.bQ (fA b.a8.z)) (fun cA=>(bif(!cA) then some 20 else(β (lR b.dA) (fun eC=>(bif(eC !=0) then some eC else(β ((bR (fun q=>tx b q) 0):Option (Int⊕Unit)) (Sum.elim (fun q=>some q) (fun _=>(bif(decide (b.q9<0)) then some 9 else(β (xv b) (fun aB=>(bif(decide (aB<b.q9)) then some 9 else(bif(decide (b.dH<0)) then some 9 else(bif(decide (1000<b.dH)) then some 9 else(bif(!(AA b.Cell.Fk)) then some 25 else(bif(!(AA b.Cell.Core)) then some 25 else(bif(decide (b.Cell.BH<0)) then some 25 else(bif(decide (1099511627776<b.Cell.BH)) then some 25 else(bif(decide (b.BI<0)) then some 26 else(bif(decide (9<b.BI)) then some 26 else some 0)))))))))))))))))))))))))))))))))))))))))))))
theorem aod (b:ma) (c:List aQ) (r:Int) (h:AB b c=some r):Holds Tryz.prog 16 [Jm b,(aj bT) c] [] (I r) []:=by
 unfold AB at h;refine bO Tryz.func16 rfl Tryz.ntmps16 rfl rfl rfl (fun lim=>?_);refine ab 2 rfl (aD (au 1 rfl ?_));obtain⟨cv,cj,h⟩:=ai h;refine aW I5 (K6 c cv cj) rfl rfl rfl rfl rfl rfl rfl ?_;refine ah 1 rfl (ab 2 rfl ?_);refine ar (b:=cv !=0) rfl (fun c2=>?_) (fun c2=>?_)
 ·replace h:=ak h c2;refine ab 2 rfl (Ze ?_);have e3:=ae h;subst e3;refine ao ?_;refine aw aa rfl rfl ?_;exact(ag _ rfl)
 ·replace h:=an h c2;refine Zk (aD (au 2 rfl ?_));obtain⟨iv,fy,h⟩:=ai h;refine aW Vi (Yp b.Id 66 iv fy) rfl rfl rfl rfl rfl rfl rfl ?_;refine Zr 2 rfl ?_;refine bu rfl rfl rfl (fun g5=>?_) (fun g5=>?_)
  ·rw [g5];replace h:=ak h g5;refine ah 11 rfl ?_;refine ar rfl (fun aN=>?_) Zx;clear aN;refine ab 1 rfl (Ze ?_);have e6:=ae h;subst e6;refine ao ?_;refine aw aa rfl rfl ?_;exact(ag _ rfl)
  ·rw [g5];replace h:=an h g5;refine Zr 2 rfl ?_;obtain⟨Nb,fh,h⟩:=ai h;refine aW Vi (Yp b.Log 76 Nb fh) rfl rfl rfl rfl rfl rfl rfl ?_;refine Zr 3 rfl ?_;refine bu rfl rfl rfl (fun g8=>?_) (fun g8=>?_)
   ·rw [g8];replace h:=ak h g8;refine ah 5 rfl ?_;refine ar rfl (fun aN=>?_) Zx;clear aN;refine ab 1 rfl (Ze ?_);have e9:=ae h;subst e9;refine ao ?_;refine aw aa rfl rfl ?_;exact(ag _ rfl)
   ·rw [g8];replace h:=an h g8;refine Zr 2 rfl ?_;obtain⟨GO,gx,h⟩:=ai h;refine aW Vj (W7 b.kO GO gx) rfl rfl rfl rfl rfl rfl rfl ?_;refine ah 2 rfl ?_;refine ar (b:=!GO) rfl (fun fN=>?_) (fun fN=>?_)
    ·replace h:=ak h fN;refine ab 1 rfl (Ze ?_);have fq:=ae h;subst fq;refine ao ?_;refine aw aa rfl rfl ?_;exact(ag _ rfl)
    ·replace h:=an h fN;refine Zk (aD (au 4 rfl ?_));refine bu rfl rfl rfl (fun g13=>?_) (fun g13=>?_)
     ·rw [g13];replace h:=ak h g13;refine ah 6 rfl ?_;refine ar rfl (fun aN=>?_) Zx;clear aN;refine ab 1 rfl (Ze ?_);have dZ:=ae h;subst dZ;refine ao ?_;refine aw aa rfl rfl ?_;exact(ag _ rfl)
     ·rw [g13];replace h:=an h g13;refine Zr 3 rfl ?_;refine bS bT c aa rfl rfl rfl rfl rfl rfl ?_;refine ah 2 rfl ?_;refine ar (b:=decide (((c.length:Nat):Int)≤b.jf)) rfl (fun fO=>?_) (fun fO=>?_)
      ·replace h:=ak h fO;refine ab 1 rfl (Ze ?_);have fw:=ae h;subst fw;refine ao ?_;refine aw aa rfl rfl ?_;exact(ag _ rfl)
      ·replace h:=an h fO;refine Zk (aD (au 2 rfl ?_));obtain⟨GP,jJ,h⟩:=ai h;refine aW Vh (Yl b.a8 GP jJ) rfl rfl rfl rfl rfl rfl rfl ?_;refine ah 1 rfl ?_;refine ar (b:=!GP) rfl (fun jK=>?_) (fun jK=>?_)
       ·replace h:=ak h jK;refine ab 1 rfl (Ze ?_);have hU:=ae h;subst hU;refine ao ?_;refine aw aa rfl rfl ?_;exact(ag _ rfl)
       ·replace h:=an h jK;refine Zk (au 3 rfl ?_);obtain⟨e,oI,h⟩:=ai h;refine cq bT c b.jf e oI aa rfl rfl rfl rfl rfl rfl rfl rfl rfl ?_;refine ah 3 rfl (au 3 rfl ?_);refine aW yD (Av b.a8.x _ rfl) rfl rfl rfl rfl rfl rfl rfl ?_;refine Zr 3 rfl ?_;refine aW yD (Av b.a8.y _ rfl) rfl rfl rfl rfl rfl rfl rfl ?_;refine Zr 3 rfl ?_;refine aW yD (Av b.a8.z _ rfl) rfl rfl rfl rfl rfl rfl rfl ?_;refine Zr 3 rfl ?_;refine aI (fun _=>by kernel_rfl) ?_;refine aq (au 1 rfl ?_);obtain⟨gv,mg,h⟩:=dT h;refine aW E_ (F0 e gv mg) rfl rfl rfl rfl rfl rfl rfl ?_;refine ah 5 rfl ?_;obtain⟨y,ij,h⟩:=ai h;refine cx (X:=Unit) [2,6,7,8,9] [2,6] (fun _=>[]) (fun _=>[]) (fun w=>ι w=y) rfl rfl ?_ ?_
        ·skip;refine ab 5 rfl (au 4 rfl ?_);refine eA rfl (EZ Tryz.underlying147 BB rfl rfl (by kernel_rfl) rfl rfl rfl) rfl rfl rfl ?_;refine Zr 1 rfl ?_;refine bu rfl rfl rfl (fun g24=>?_) (fun g24=>?_)
         ·rw [g24];replace ij:=ak ij g24;refine Zr 4 rfl ?_;refine eA rfl (EZ Tryz.underlying147 BB rfl rfl (by kernel_rfl) rfl rfl rfl) rfl rfl rfl ?_;refine ah 1 rfl ?_;refine ar (b:=!((fA b.a8.x)==gv.2&&((fA b.a8.y)==gv.1&&true))) rfl (fun iP=>?_) (fun iP=>?_)
          ·replace ij:=ak ij iP;refine ab 1 rfl (aR ?_);obtain⟨t,oE,hq⟩:=cp ij;subst hq;have hq:=bZ h;replace hq:=ae hq;subst hq;refine aJ ?_;have jh:=ae oE;subst jh;refine ao ?_;refine aw aa rfl rfl ?_;exact(ag _ rfl)
          ·replace ij:=an ij iP;refine cV ?_;have iy:=ae ij;refine aq ⟨rfl,(),[(2,some 2),(6,some 6)],⟨rfl,rfl,rfl,rfl,rfl,trivial,trivial⟩,iy⟩
         ·rw [g24];replace ij:=an ij g24;refine ah 6 rfl ?_;refine ar rfl Zx (fun aN=>?_);clear aN;refine cV ?_;have jL:=ae ij;refine aq ⟨rfl,(),[(2,some 2),(6,some 6)],⟨rfl,rfl,rfl,rfl,rfl,trivial,trivial⟩,jL⟩
        ·intro w BW;subst BW;replace h:=dX h;refine aD (au 3 rfl ?_);obtain⟨cA,ri,h⟩:=ai h;refine aW ain (aoc e.bQ (fA b.a8.z) cA ri) rfl rfl rfl rfl rfl rfl rfl ?_;refine ah 1 rfl ?_;refine ar (b:=!cA) rfl (fun qq=>?_) (fun qq=>?_)
         ·replace h:=ak h qq;refine ab 1 rfl (Ze ?_);have ku:=ae h;subst ku;refine ao ?_;refine aw aa rfl rfl ?_;exact(ag _ rfl)
         ·replace h:=an h qq;refine Zk (aD (au 2 rfl ?_));obtain⟨eC,uP,h⟩:=ai h;refine aW yE (zc b.dA eC uP) rfl rfl rfl rfl rfl rfl rfl ?_;refine ah 1 rfl (ab 2 rfl ?_);refine ar (b:=eC !=0) rfl (fun jM=>?_) (fun jM=>?_)
          ·replace h:=ak h jM;refine ab 2 rfl (Ze ?_);have wJ:=ae h;subst wJ;refine ao ?_;refine aw aa rfl rfl ?_;exact(ag _ rfl)
          ·replace h:=an h jM;refine Zk ?_;obtain⟨y1,aoe,h⟩:=ai h;refine cx (X:=Unit) [2] [2] (fun _=>[]) (fun _=>[]) (fun w1=>ι w1=y1) rfl rfl ?_ ?_
           ·skip;refine au 2 rfl ?_;refine bS bM b.dA aa rfl rfl rfl rfl rfl rfl ?_;refine ah 1 rfl (bn ?_);refine cN (X:=Int) (Y:=Int⊕Unit) [2,7,8,9,100,101] [2] (fun q=>[(102,I q)]) (fun q=>[]) (fun q=>tx b q) 0 [(2,some 2)] aoe ⟨rfl,rfl,rfl,rfl,rfl,⟨J _ rfl,trivial⟩,trivial⟩ (fun vv vR vz jr Dg=>?_);change tx b vv=_ at jr;unfold tx at jr;refine ab 1 rfl (aD ?_);refine ar (b:=decide (vv<((b.dA.length:Nat):Int))) rfl (fun qG=>?_) (fun qG=>?_)
            ·replace jr:=ak jr qG;refine Zk (aD (bn (aD (fJ cL ?_))));obtain⟨e1,Cm,jr⟩:=ai jr;refine cq bM b.dA vv e1 Cm aa rfl rfl rfl rfl rfl rfl rfl rfl rfl ?_;refine ah 3 rfl (au 4 rfl ?_);refine aW I6 (Na e1.b.x (fA b.a8.x) _ rfl) rfl rfl rfl rfl rfl rfl rfl ?_;refine Zr 2 rfl ?_;refine bu rfl rfl rfl (fun Dh=>?_) (fun Dh=>?_)
             ·rw [Dh];replace jr:=ak jr Dh;refine ah 15 rfl ?_;refine ar rfl (fun aN=>?_) Zx;clear aN;refine ab 1 rfl (aR (aZ (aJ ?_)));obtain⟨t1,oA,hq⟩:=bf jr;subst hq;have hq:t1=_:=Dg;subst hq;refine aJ (aZ ?_);obtain⟨t2,wF,hq⟩:=cp oA;subst hq;have hq:=bZ h;replace hq:=ae hq;subst hq;refine aJ ?_;have mO:=ae wF;subst mO;refine ao ?_;refine aw aa rfl rfl ?_;exact(ag _ rfl)
             ·rw [Dh];replace jr:=an jr Dh;refine Zr 4 rfl ?_;refine aW I6 (Na e1.b.y (fA b.a8.y) _ rfl) rfl rfl rfl rfl rfl rfl rfl ?_;refine Zr 3 rfl ?_;refine bu rfl rfl rfl (fun Di=>?_) (fun Di=>?_)
              ·rw [Di];replace jr:=ak jr Di;refine ah 7 rfl ?_;refine ar rfl (fun aN=>?_) Zx;clear aN;refine ab 1 rfl (aR (aZ (aJ ?_)));obtain⟨t3,Cb,hq⟩:=bf jr;subst hq;have hq:t3=_:=Dg;subst hq;refine aJ (aZ ?_);obtain⟨t4,Cn,hq⟩:=cp Cb;subst hq;have hq:=bZ h;replace hq:=ae hq;subst hq;refine aJ ?_;have Co:=ae Cn;subst Co;refine ao ?_;refine aw aa rfl rfl ?_;exact(ag _ rfl)
              ·rw [Di];replace jr:=an jr Di;refine Zr 4 rfl ?_;refine aW I6 (Na e1.b.z (fA b.a8.z) _ rfl) rfl rfl rfl rfl rfl rfl rfl ?_;refine ah 2 rfl ?_;refine ar (b:=!(oS e1.b.z (fA b.a8.z))) rfl (fun Nc=>?_) (fun Nc=>?_)
               ·replace jr:=ak jr Nc;refine ab 1 rfl (aR (aZ (aJ ?_)));obtain⟨t5,Ky,hq⟩:=bf jr;subst hq;have hq:t5=_:=Dg;subst hq;refine aJ (aZ ?_);obtain⟨t6,Kz,hq⟩:=cp Ky;subst hq;have hq:=bZ h;replace hq:=ae hq;subst hq;refine aJ ?_;have e53:=ae Kz;subst e53;refine ao ?_;refine aw aa rfl rfl ?_;exact(ag _ rfl)
               ·replace jr:=an jr Nc;refine cV (bP (aq (aY 2 rfl (aI nd ?_))));have KC:=ae jr;subst KC;refine aq ⟨rfl,U (vv+1),[(2,some 2)],⟨rfl,rfl,rfl,rfl,rfl,⟨J _ rfl,trivial⟩,trivial⟩,Dg⟩
            ·replace jr:=an jr qG;refine cD (bg ?_);obtain⟨t7,aog,hq⟩:=bf jr;subst hq;have hq:t7=_:=Dg;subst hq;refine bg (cE ?_);have MF:=ae aog;refine aq ⟨rfl,(),[(2,some 2)],⟨rfl,rfl,rfl,rfl,rfl,trivial,trivial⟩,MF⟩
           ·intro w1 aoh;subst aoh;replace h:=dX h;refine aD (au 4 rfl ?_);refine bu rfl rfl rfl (fun Dj=>?_) (fun Dj=>?_)
            ·rw [Dj];replace h:=ak h Dj;refine Zr 16 rfl ?_;refine aI (fun _=>by kernel_rfl) ?_;refine aq ?_;refine ar rfl (fun aN=>?_) Zx;clear aN;refine ab 1 rfl (Ze ?_);have Cc:=ae h;subst Cc;refine ao ?_;refine aw aa rfl rfl ?_;exact(ag _ rfl)
            ·rw [Dj];replace h:=an h Dj;refine Zr 3 rfl ?_;obtain⟨aB,MG,h⟩:=ai h;refine aW Va (Ym b aB MG) rfl rfl rfl rfl rfl rfl rfl ?_;refine Zr 3 rfl ?_;refine bu rfl rfl rfl (fun Dk=>?_) (fun Dk=>?_)
             ·rw [Dk];replace h:=ak h Dk;refine Zr 9 rfl ?_;refine aI (fun _=>by kernel_rfl) ?_;refine aq ?_;refine ar rfl (fun aN=>?_) Zx;clear aN;refine ab 1 rfl (Ze ?_);have Cd:=ae h;subst Cd;refine ao ?_;refine aw aa rfl rfl ?_;exact(ag _ rfl)
             ·rw [Dk];replace h:=an h Dk;refine Zr 5 rfl ?_;refine bu rfl rfl rfl (fun Dl=>?_) (fun Dl=>?_)
              ·rw [Dl];replace h:=ak h Dl;refine Zr 4 rfl ?_;refine aI (fun _=>by kernel_rfl) ?_;refine aq ?_;refine ar rfl (fun aN=>?_) Zx;clear aN;refine ab 1 rfl (Ze ?_);have K0:=ae h;subst K0;refine ao ?_;refine aw aa rfl rfl ?_;exact(ag _ rfl)
              ·rw [Dl];replace h:=an h Dl;refine Zr 4 rfl ?_;refine aI (fun _=>by kernel_rfl) ?_;refine aq ?_;refine ar (b:=decide (1000<b.dH)) rfl (fun Nd=>?_) (fun Nd=>?_)
               ·replace h:=ak h Nd;refine ab 1 rfl (Ze ?_);have e65:=ae h;subst e65;refine ao ?_;refine aw aa rfl rfl ?_;exact(ag _ rfl)
               ·replace h:=an h Nd;refine Zk (aD (au 3 rfl ?_));refine aW Vk (Ys b.Cell.Fk _ rfl) rfl rfl rfl rfl rfl rfl rfl ?_;refine Zr 2 rfl ?_;refine bu rfl rfl rfl (fun qH=>?_) (fun qH=>?_)
                ·rw [qH];replace h:=ak h qH;refine ah 18 rfl ?_;refine ar rfl (fun aN=>?_) Zx;clear aN;refine ab 1 rfl (Ze ?_);have K2:=ae h;subst K2;refine ao ?_;refine aw aa rfl rfl ?_;exact(ag _ rfl)
                ·rw [qH];replace h:=an h qH;refine Zr 3 rfl ?_;refine aW Vk (Ys b.Cell.Core _ rfl) rfl rfl rfl rfl rfl rfl rfl ?_;refine Zr 3 rfl ?_;refine bu rfl rfl rfl (fun Dm=>?_) (fun Dm=>?_)
                 ·rw [Dm];replace h:=ak h Dm;refine ah 11 rfl ?_;refine ar rfl (fun aN=>?_) Zx;clear aN;refine ab 1 rfl (Ze ?_);have e69:=ae h;subst e69;refine ao ?_;refine aw aa rfl rfl ?_;exact(ag _ rfl)
                 ·rw [Dm];replace h:=an h Dm;refine Zr 6 rfl ?_;refine bu rfl rfl rfl (fun Dn=>?_) (fun Dn=>?_)
                  ·rw [Dn];replace h:=ak h Dn;refine ah 5 rfl ?_;refine ar rfl (fun aN=>?_) Zx;clear aN;refine ab 1 rfl (Ze ?_);have e71:=ae h;subst e71;refine ao ?_;refine aw aa rfl rfl ?_;exact(ag _ rfl)
                  ·rw [Dn];replace h:=an h Dn;refine ah 5 rfl ?_;refine ar (b:=decide (1099511627776<b.Cell.BH)) rfl (fun Nf=>?_) (fun Nf=>?_)
                   ·replace h:=ak h Nf;refine ab 1 rfl (Ze ?_);have MN:=ae h;subst MN;refine ao ?_;refine aw aa rfl rfl ?_;exact(ag _ rfl)
                   ·replace h:=an h Nf;refine Zk (aD (au 4 rfl ?_));refine bu rfl rfl rfl (fun Dp=>?_) (fun Dp=>?_)
                    ·rw [Dp];replace h:=ak h Dp;refine ah 4 rfl ?_;refine ar rfl (fun aN=>?_) Zx;clear aN;refine ab 1 rfl (Ze ?_);have MO:=ae h;subst MO;refine ao ?_;refine aw aa rfl rfl ?_;exact(ag _ rfl)
                    ·rw [Dp];replace h:=an h Dp;refine ah 4 rfl ?_;refine ar (b:=decide (9<b.BI)) rfl (fun Ng=>?_) (fun Ng=>?_)
                     ·replace h:=ak h Ng;refine ab 1 rfl (Ze ?_);have e77:=ae h;subst e77;refine ao ?_;refine aw aa rfl rfl ?_;exact(ag _ rfl)
                     ·replace h:=an h Ng;refine Zk (ab 1 rfl (aR ?_));have e78:=ae h;subst e78;refine ao ?_;refine aw aa rfl rfl ?_;exact(ag _ rfl)
def uU (t:l_) (pv:(List aG)×(List Df)×Int) (bv:List eH) (en:Int) (k:Int):Option ((Int×Int)⊕((((Int×(List bq)×(List Int)×(List aH))⊕(Bool⊕Unit))⊕((List bq)×(List Int)×(List aH)))⊕Int)):=
 (bif(decide (k<((bv.length:Nat):Int))) then(β (aK bv k) (fun e2=>(β (aK bv k) (fun e3=>(β (As (⟨#[66,48,48,48,48,48,49,77]⟩:ByteArray) (⟨#[76,48,48,48,48,48,49,87]⟩:ByteArray) (⟨(⟨#[112,105,110,101]⟩:ByteArray),8000,0,0,0,0,0,0,0,0,0,0,0⟩:q_) pv.1 pv.2.1 e2.jf e3.a8) (fun nv=>(β (aK bv k) (fun e4=>(β (nH pv.1 e4.a8) (fun wv=>(bif(nv.q9 !=wv) then some (ι (κ (κ (ι (κ false))))) else(β (xv nv) (fun qA=>(bif(decide (qA<nv.q9)) then some (ι (κ (κ (ι (κ false))))) else(β (aK bv k) (fun e5=>(β (aK t.eu e5.jf) (fun e6=>(bif(decide (e6.dH<nv.dH)) then some (ι (κ (κ (ι (κ false))))) else(β (AB nv t.eu) (fun cA=>(bif(cA !=0) then some (ι (κ (κ (ι (κ false))))) else some (κ ((U (en+nv.q9)),U (k+1))))))))))))))))))))))))) else some (ι (ι en)))
def xw (t:l_) (jC:List Int) (pv:(List aG)×(List Df)×Int) (aU:(List aG)×(List Df)×(List aQ)×Int×Int×Int×Int×Int×Int×Int×Int×(List bq)×(List Int)×(List aH)×Int) (i:Int) (w1:List bq) (w2:List Int) (w3:List aH):Option ((Int×(List bq)×(List Int)×(List aH))⊕(Bool⊕Unit)):=
 (bif(decide (i<((jC.length:Nat):Int))) then(bif(decide (i<30)) then(β ((β ((β (aK jC i) (fun e=>(bif(decide (1000≤e)) then(cH (tu aU.1 aU.2.1 aU.2.2.1 aU.2.2.2.1 aU.2.2.2.2.1 aU.2.2.2.2.2.1 aU.2.2.2.2.2.2.1 aU.2.2.2.2.2.2.2.1 aU.2.2.2.2.2.2.2.2.1 aU.2.2.2.2.2.2.2.2.2.1 aU.2.2.2.2.2.2.2.2.2.2.1 w1 w2 w3) (fun av=>some (av.2.1,av.2.2.1,av.2.2.2))) else(β (aK jC i) (fun e1=>(β (tc aU.1 aU.2.1 aU.2.2.1 aU.2.2.2.1 aU.2.2.2.2.1 aU.2.2.2.2.2.1 aU.2.2.2.2.2.2.1 aU.2.2.2.2.2.2.2.1 aU.2.2.2.2.2.2.2.2.1 aU.2.2.2.2.2.2.2.2.2.1 aU.2.2.2.2.2.2.2.2.2.2.1 w1 w2 w3 e1) (fun cv=>some (cv.2.1,cv.2.2.1,cv.2.2.2)))))))):Option ((List bq)×(List Int)×(List aH))) (fun tz=>(β (uN aU.1 aU.2.1 aU.2.2.1 aU.2.2.2.1 aU.2.2.2.2.1 aU.2.2.2.2.2.1 aU.2.2.2.2.2.2.1 aU.2.2.2.2.2.2.2.1 aU.2.2.2.2.2.2.2.2.1 aU.2.2.2.2.2.2.2.2.2.1 aU.2.2.2.2.2.2.2.2.2.2.1 tz.1 tz.2.1 tz.2.2) (fun yv=>(β (uM aU.1 aU.2.1 aU.2.2.1 aU.2.2.2.1 aU.2.2.2.2.1 aU.2.2.2.2.2.1 aU.2.2.2.2.2.2.1 aU.2.2.2.2.2.2.2.1 aU.2.2.2.2.2.2.2.2.1 aU.2.2.2.2.2.2.2.2.2.1 aU.2.2.2.2.2.2.2.2.2.2.1 tz.1 tz.2.1 tz.2.2) (fun bv=>(β ((bR (fun q=>uU t pv bv q.1 q.2) (0,0)):Option ((((Int×(List bq)×(List Int)×(List aH))⊕(Bool⊕Unit))⊕((List bq)×(List Int)×(List aH)))⊕Int)) (Sum.elim (fun q=>some q) (fun fZ=>(β (uK pv.1) (fun Nh=>(bif(yv.1.Log !=Nh) then some (κ (ι (κ false))) else(bif(fZ !=yv.1.dY) then some (κ (ι (κ false))) else(bif(decide (yv.1.gz<0)) then some (κ (ι (κ false))) else(bif(decide (yv.1.cU<0)) then some (κ (ι (κ false))) else(bif(decide (yv.2<0)) then some (κ (ι (κ false))) else(bif(yv.1.Log !=(U ((U ((U (fZ+yv.1.gz))+yv.1.cU))+yv.2))) then some (κ (ι (κ false))) else some (ι (tz.1,tz.2.1,tz.2.2))))))))))))))))))):Option (((Int×(List bq)×(List Int)×(List aH))⊕(Bool⊕Unit))⊕((List bq)×(List Int)×(List aH)))) (Sum.elim (fun q=>some q) (fun Ni=>some (κ ((U (i+1)),Ni.1,Ni.2.1,Ni.2.2))))) else some (ι (ι ()))) else some (ι (ι ())))
def GQ (t:l_) (p:dq) (jC:List Int):Option Bool:=
 (β (B9 t) (fun sv=>(bif(!sv) then(β pI (fun vv=>some vv)) else(bif(decide (60<((p.aV.length:Nat):Int))) then(β pI (fun aB=>some aB)) else(β (C7 t.Scan ((jC.length:Nat):Int) t.yJ t.yK) (fun pv=>(bif(pv.2.2!=0) then(bif(((pv.1.length:Nat):Int)==0) then(β pI (fun dU=>some dU)) else some false) else(β (rK pv.1 pv.2.1 t.eu p t.ff t.jz) (fun vz=>Sum.elim (fun gy=>(bif(gy !=0) then(bif((gy==0)==false) then(β pI (fun qy=>some qy)) else some false) else(bif((gy==0)==false) then(β pI (fun qz=>some qz)) else some false))) (fun aU=>(bif(aU.2.2.2.2.2.2.2.2.2.2.2.2.2.2!=0) then(bif((aU.2.2.2.2.2.2.2.2.2.2.2.2.2.2==0)==true) then(β pI (fun kH=>some kH)) else some false) else(β ((bR (fun q=>xw t jC pv aU q.1 q.2.1 q.2.2.1 q.2.2.2) (0,aU.2.2.2.2.2.2.2.2.2.2.2.1,aU.2.2.2.2.2.2.2.2.2.2.2.2.1,aU.2.2.2.2.2.2.2.2.2.2.2.2.2.1)):Option (Bool⊕Unit)) (Sum.elim (fun q=>some q) (fun _=>(β pI (fun Nj=>some Nj))))))) vz)))))))))
theorem aon (t:l_) (p:dq) (jC:List Int) (r:Bool) (h:GQ t p jC=some r):Holds Tryz.prog 3 [Fi t,oi p,(aj I) jC] [] (B r) []:=by
 unfold GQ at h;refine bO Tryz.func3 rfl Tryz.ntmps3 rfl rfl rfl (fun lim=>?_);refine ab 3 rfl (aD (au 1 rfl ?_));obtain⟨sv,cj,h⟩:=ai h;refine aW fn5 (alj t sv cj) rfl rfl rfl rfl rfl rfl rfl ?_;refine Zr 2 rfl ?_;refine bu rfl rfl rfl (fun g2=>?_) (fun g2=>?_)
 ·rw [g2];replace h:=ak h g2;refine ah 5 rfl ?_;refine ar rfl (fun aN=>?_) Zx;clear aN;refine aD (fJ cL ?_);obtain⟨vv,eB,h⟩:=ai h;refine aW vW (xm vv eB) rfl rfl rfl rfl rfl rfl rfl ?_;refine ah 1 rfl (Ze ?_);have e4:=ae h;subst e4;refine ao ?_;refine aw aa rfl rfl ?_;exact(ag _ rfl)
 ·rw [g2];replace h:=an h g2;refine Zr 2 rfl ?_;refine bS de p.aV aa rfl rfl rfl rfl rfl rfl ?_;refine ah 2 rfl ?_;refine ar (b:=decide (60<((p.aV.length:Nat):Int))) rfl (fun c5=>?_) (fun c5=>?_)
  ·replace h:=ak h c5;refine aD (fJ cL ?_);obtain⟨aB,dD,h⟩:=ai h;refine aW vW (xm aB dD) rfl rfl rfl rfl rfl rfl rfl ?_;refine ah 1 rfl (Ze ?_);have e7:=ae h;subst e7;refine ao ?_;refine aw aa rfl rfl ?_;exact(ag _ rfl)
  ·replace h:=an h c5;refine Zk (au 3 rfl ?_);refine bS I jC aa rfl rfl rfl rfl rfl rfl ?_;refine Zr 4 rfl ?_;obtain⟨pv,fj,h⟩:=ai h;refine aW fn7 (anY t.Scan ((jC.length:Nat):Int) t.yJ t.yK pv fj) rfl rfl rfl rfl rfl rfl rfl ?_;refine ah 7 rfl (aD (ab 2 rfl ?_));refine ar (b:=pv.2.2!=0) rfl (fun c9=>?_) (fun c9=>?_)
   ·replace h:=ak h c9;refine au 1 rfl ?_;refine bS bK pv.1 aa rfl rfl rfl rfl rfl rfl ?_;refine Zr 2 rfl ?_;refine bu rfl rfl rfl (fun g10=>?_) (fun g10=>?_)
    ·rw [g10];replace h:=ak h g10;obtain⟨dU,fF,h⟩:=ai h;refine aW vW (xm dU fF) rfl rfl rfl rfl rfl rfl rfl ?_;refine ah 2 rfl (Ze ?_);have fq:=ae h;subst fq;refine ao ?_;refine aw aa rfl rfl ?_;exact(ag _ rfl)
    ·rw [g10];replace h:=an h g10;refine ah 3 rfl (Ze ?_);have dQ:=ae h;subst dQ;refine ao ?_;refine aw aa rfl rfl ?_;exact(ag _ rfl)
   ·replace h:=an h c9;refine Zk (au 9 rfl ?_);obtain⟨vz,ik,h⟩:=ai h;rcases vz with gy|aU
    ·skip;replace h:=bZ h;refine eP (.cz [.sc (.pointer none),I gy]) [] [] [] [] E6 (XV pv.1 pv.2.1 t.eu p t.ff t.jz gy ik) rfl rfl rfl rfl rfl trivial ⟨ag _ rfl,ag _ rfl,ag _ rfl,ag _ rfl,ag _ rfl,ag _ rfl,trivial⟩ rfl rfl trivial rfl rfl trivial (ag _ rfl) rfl (fun h=>absurd rfl h) rfl rfl rfl ?_;refine ah 5 rfl (aD (au 3 rfl ?_));refine bu rfl rfl rfl (fun g15=>?_) (fun g15=>?_)
     ·rw [g15];replace h:=ak h g15;refine ah 3 rfl ?_;refine ar rfl (fun aN=>?_) Zx;clear aN;refine au 3 rfl ?_;refine eA rfl (EW (.inr ⟨rfl,rfl⟩) rfl Tryz.underlying47 rfl rfl) rfl rfl rfl ?_;refine eA rfl (HF rfl (aa _ _ rfl) rfl rfl rfl) rfl rfl rfl ?_;refine Zr 1 rfl ?_;refine bu rfl rfl rfl (fun g16=>?_) (fun g16=>?_)
      ·rw [g16];replace h:=ak h g16;obtain⟨qy,jJ,h⟩:=ai h;refine aW vW (xm qy jJ) rfl rfl rfl rfl rfl rfl rfl ?_;refine ah 2 rfl (Ze ?_);have eR:=ae h;subst eR;refine ao ?_;refine aw aa rfl rfl ?_;exact(ag _ rfl)
      ·rw [g16];replace h:=an h g16;refine ah 3 rfl (Ze ?_);have hU:=ae h;subst hU;refine ao ?_;refine aw aa rfl rfl ?_;exact(ag _ rfl)
     ·rw [g15];replace h:=an h g15;refine Zr 1 rfl ?_;refine eA rfl (EW (.inl ⟨rfl,rfl⟩) rfl Tryz.underlying47 rfl rfl) rfl rfl rfl ?_;refine ah 1 rfl ?_;refine ar rfl (fun aN=>?_) Zx;clear aN;refine au 3 rfl ?_;refine eA rfl (EW (.inr ⟨rfl,rfl⟩) rfl Tryz.underlying47 rfl rfl) rfl rfl rfl ?_;refine eA rfl (HF rfl (aa _ _ rfl) rfl rfl rfl) rfl rfl rfl ?_;refine Zr 1 rfl ?_;refine bu rfl rfl rfl (fun g20=>?_) (fun g20=>?_)
      ·rw [g20];replace h:=ak h g20;obtain⟨qz,mg,h⟩:=ai h;refine aW vW (xm qz mg) rfl rfl rfl rfl rfl rfl rfl ?_;refine ah 2 rfl (Ze ?_);have gK:=ae h;subst gK;refine ao ?_;refine aw aa rfl rfl ?_;exact(ag _ rfl)
      ·rw [g20];replace h:=an h g20;refine ah 3 rfl (Ze ?_);have jm:=ae h;subst jm;refine ao ?_;refine aw aa rfl rfl ?_;exact(ag _ rfl)
    ·skip;replace h:=dX h;refine eP (.cz [.ref 600 0 0,I aU.2.2.2.2.2.2.2.2.2.2.2.2.2.2]) [] [(600,some ⟨117,14,[.agg [aj bK aU.1,aj bM aU.2.1,aj bT aU.2.2.1,I aU.2.2.2.1,I aU.2.2.2.2.1,I aU.2.2.2.2.2.1,I aU.2.2.2.2.2.2.1,I aU.2.2.2.2.2.2.2.1,I aU.2.2.2.2.2.2.2.2.1,I aU.2.2.2.2.2.2.2.2.2.1,I aU.2.2.2.2.2.2.2.2.2.2.1,.arr 601 0 aU.2.2.2.2.2.2.2.2.2.2.2.1.length,aj I aU.2.2.2.2.2.2.2.2.2.2.2.2.1,.arr 602 0 aU.2.2.2.2.2.2.2.2.2.2.2.2.2.1.length]]⟩),(601,some ⟨119,24,aU.2.2.2.2.2.2.2.2.2.2.2.1.map a_⟩),(602,some ⟨36,4,aU.2.2.2.2.2.2.2.2.2.2.2.2.2.1.map a6⟩)] [] [(600,some 999),(601,some 997),(602,some 996)] E6 (XW pv.1 pv.2.1 t.eu p t.ff t.jz aU ik) rfl rfl rfl rfl rfl trivial ⟨ag _ rfl,ag _ rfl,ag _ rfl,ag _ rfl,ag _ rfl,ag _ rfl,trivial⟩ rfl rfl trivial rfl rfl ⟨⟨_,rfl,rfl,rfl,.inr ⟨⟨⟨J _ rfl,J _ rfl,J _ rfl,J _ rfl,J _ rfl,J _ rfl,J _ rfl,J _ rfl,J _ rfl,J _ rfl,J _ rfl,⟨rfl,rfl,rfl⟩,J _ rfl,⟨rfl,rfl,rfl⟩,trivial⟩,trivial⟩,⟨rfl,trivial⟩⟩⟩,⟨_,rfl,rfl,rfl,aC (enc:=a_) aU.2.2.2.2.2.2.2.2.2.2.2.1 (fun _=>rfl)⟩,⟨_,rfl,rfl,rfl,aC (enc:=a6) aU.2.2.2.2.2.2.2.2.2.2.2.2.2.1 (fun _=>rfl)⟩,trivial⟩ ⟨⟨rfl,rfl,rfl⟩,J _ rfl,trivial⟩ rfl (fun h=>absurd rfl h) rfl rfl rfl ?_;refine ah 5 rfl (aD (au 3 rfl ?_));refine bu rfl rfl rfl (fun g24=>?_) (fun g24=>?_)
     ·rw [g24];replace h:=ak h g24;refine ah 3 rfl ?_;refine ar rfl (fun aN=>?_) Zx;clear aN;refine au 3 rfl ?_;refine eA rfl (uq (.inr ⟨rfl,rfl⟩) rfl Tryz.underlying47 rfl rfl) rfl rfl rfl ?_;refine eA rfl (HF rfl (aa _ _ rfl) rfl rfl rfl) rfl rfl rfl ?_;refine Zr 1 rfl ?_;refine bu rfl rfl rfl (fun qk=>?_) (fun qk=>?_)
      ·rw [qk];replace h:=ak h qk;obtain⟨kH,kp,h⟩:=ai h;refine aW vW (xm kH kp) rfl rfl rfl rfl rfl rfl rfl ?_;refine ah 2 rfl (Ze ?_);have jh:=ae h;subst jh;refine ao ?_;refine aw aa rfl rfl ?_;exact(ag _ rfl)
      ·rw [qk];replace h:=an h qk;refine ah 3 rfl (Ze ?_);have iy:=ae h;subst iy;refine ao ?_;refine aw aa rfl rfl ?_;exact(ag _ rfl)
     ·rw [g24];replace h:=an h g24;refine Zr 1 rfl ?_;refine eA rfl (uq (.inl ⟨rfl,rfl⟩) rfl Tryz.underlying47 rfl rfl) rfl rfl rfl ?_;refine ah 1 rfl ?_;refine ar rfl Zx (fun aN=>?_);clear aN;refine Zk (ab 3 rfl ?_);obtain⟨y,aoo,h⟩:=ai h;refine cx (X:=Unit) [] [] (fun _=>[]) (fun _=>[]) (fun w=>ι w=y) rfl rfl ?_ ?_
      ·skip;refine ab 1 rfl (bn ?_);refine cN (X:=Int×(List bq)×(List Int)×(List aH)) (Y:=Bool⊕Unit) [2,3,7,8,10,11] [3,11] (fun q=>[(12,I q.1)]) (fun q=>[(601,some ⟨119,24,q.2.1.map a_⟩),(602,some ⟨36,4,q.2.2.2.map a6⟩),(600,some ⟨117,14,[.agg [aj bK aU.1,aj bM aU.2.1,aj bT aU.2.2.1,I aU.2.2.2.1,I aU.2.2.2.2.1,I aU.2.2.2.2.2.1,I aU.2.2.2.2.2.2.1,I aU.2.2.2.2.2.2.2.1,I aU.2.2.2.2.2.2.2.2.1,I aU.2.2.2.2.2.2.2.2.2.1,I aU.2.2.2.2.2.2.2.2.2.2.1,.arr 601 0 q.2.1.length,aj I q.2.2.1,.arr 602 0 q.2.2.2.length]]⟩)]) (fun q=>xw t jC pv aU q.1 q.2.1 q.2.2.1 q.2.2.2) (0,aU.2.2.2.2.2.2.2.2.2.2.2.1,aU.2.2.2.2.2.2.2.2.2.2.2.2.1,aU.2.2.2.2.2.2.2.2.2.2.2.2.2.1) [(601,some 601),(602,some 602),(600,some 600),(3,some 3),(11,some 11)] aoo ⟨rfl,rfl,rfl,rfl,rfl,⟨J _ rfl,trivial⟩,⟨⟨_,rfl,rfl,rfl,aC (enc:=a_) aU.2.2.2.2.2.2.2.2.2.2.2.1 (fun _=>rfl)⟩,⟨_,rfl,rfl,rfl,aC (enc:=a6) aU.2.2.2.2.2.2.2.2.2.2.2.2.2.1 (fun _=>rfl)⟩,⟨_,rfl,rfl,rfl,.inr ⟨⟨⟨J _ rfl,J _ rfl,J _ rfl,J _ rfl,J _ rfl,J _ rfl,J _ rfl,J _ rfl,J _ rfl,J _ rfl,J _ rfl,⟨rfl,rfl,rfl⟩,J _ rfl,⟨rfl,rfl,rfl⟩,trivial⟩,trivial⟩,⟨rfl,trivial⟩⟩⟩,trivial⟩⟩ (fun x vR jB iR oT=>?_);obtain⟨i,w1,w2,w3⟩:=x;change xw t jC pv aU i w1 w2 w3=_ at iR;unfold xw at iR;refine aD (au 2 rfl ?_);refine bS I jC aa rfl rfl rfl rfl rfl rfl ?_;refine Zr 2 rfl ?_;refine bu rfl rfl rfl (fun Dq=>?_) (fun Dq=>?_)
       ·rw [Dq];replace iR:=ak iR Dq;refine ah 3 rfl ?_;refine ar (b:=decide (i<30)) rfl (fun jM=>?_) (fun jM=>?_)
        ·replace iR:=ak iR jM;refine Zk ?_;obtain⟨y1,eF,iR⟩:=ai iR;refine cx (X:=(List bq)×(List Int)×(List aH)) [2,3,7,8,10,11,12] [3,11] (fun w7=>[]) (fun w7=>[(601,some ⟨119,24,w7.1.map a_⟩),(602,some ⟨36,4,w7.2.2.map a6⟩),(600,some ⟨117,14,[.agg [aj bK aU.1,aj bM aU.2.1,aj bT aU.2.2.1,I aU.2.2.2.1,I aU.2.2.2.2.1,I aU.2.2.2.2.2.1,I aU.2.2.2.2.2.2.1,I aU.2.2.2.2.2.2.2.1,I aU.2.2.2.2.2.2.2.2.1,I aU.2.2.2.2.2.2.2.2.2.1,I aU.2.2.2.2.2.2.2.2.2.2.1,.arr 601 0 w7.1.length,aj I w7.2.1,.arr 602 0 w7.2.2.length]]⟩)]) (fun w7=>ι w7=y1) rfl rfl ?_ ?_
         ·skip;refine bn ?_;obtain⟨y2,nJ,eF⟩:=ai eF;refine cx (X:=(List bq)×(List Int)×(List aH)) [2,3,7,8,10,11,12] [3,11] (fun rS=>[]) (fun rS=>[(601,some ⟨119,24,rS.1.map a_⟩),(602,some ⟨36,4,rS.2.2.map a6⟩),(600,some ⟨117,14,[.agg [aj bK aU.1,aj bM aU.2.1,aj bT aU.2.2.1,I aU.2.2.2.1,I aU.2.2.2.2.1,I aU.2.2.2.2.2.1,I aU.2.2.2.2.2.2.1,I aU.2.2.2.2.2.2.2.1,I aU.2.2.2.2.2.2.2.2.1,I aU.2.2.2.2.2.2.2.2.2.1,I aU.2.2.2.2.2.2.2.2.2.2.1,.arr 601 0 rS.1.length,aj I rS.2.1,.arr 602 0 rS.2.2.length]]⟩)]) (fun rS=>rS=y2) rfl rfl ?_ ?_
          ·skip;refine au 2 rfl ?_;obtain⟨e,zz,nJ⟩:=ai nJ;refine cq I jC i e zz aa rfl rfl rfl rfl rfl rfl rfl rfl rfl ?_;refine ah 2 rfl ?_;refine ar (b:=decide (1000≤e)) rfl (fun qG=>?_) (fun qG=>?_)
           ·replace nJ:=ak nJ qG;refine aY 1 rfl ?_;obtain⟨av,Cm,nJ⟩:=dT nJ;refine eP (I av.1) [] [(600,some ⟨117,14,[.agg [aj bK aU.1,aj bM aU.2.1,aj bT aU.2.2.1,I aU.2.2.2.1,I aU.2.2.2.2.1,I aU.2.2.2.2.2.1,I aU.2.2.2.2.2.2.1,I aU.2.2.2.2.2.2.2.1,I aU.2.2.2.2.2.2.2.2.1,I aU.2.2.2.2.2.2.2.2.2.1,I aU.2.2.2.2.2.2.2.2.2.2.1,.arr 601 0 av.2.1.length,aj I av.2.2.1,.arr 602 0 av.2.2.2.length]]⟩),(601,some ⟨119,24,av.2.1.map a_⟩),(602,some ⟨36,4,av.2.2.2.map a6⟩)] [(1000,some 600),(1111,some 601),(1113,some 602)] [(600,some 1000),(601,some 1111),(602,some 1113)] fn9 (anZ aU.1 aU.2.1 aU.2.2.1 aU.2.2.2.1 aU.2.2.2.2.1 aU.2.2.2.2.2.1 aU.2.2.2.2.2.2.1 aU.2.2.2.2.2.2.2.1 aU.2.2.2.2.2.2.2.2.1 aU.2.2.2.2.2.2.2.2.2.1 aU.2.2.2.2.2.2.2.2.2.2.1 w1 w2 w3 av Cm) rfl rfl rfl rfl rfl trivial ⟨⟨rfl,rfl,rfl⟩,trivial⟩ rfl rfl ⟨⟨_,rfl,rfl,rfl,.inr ⟨⟨⟨J _ rfl,J _ rfl,J _ rfl,J _ rfl,J _ rfl,J _ rfl,J _ rfl,J _ rfl,J _ rfl,J _ rfl,J _ rfl,⟨rfl,rfl,rfl⟩,J _ rfl,⟨rfl,rfl,rfl⟩,trivial⟩,trivial⟩,⟨rfl,trivial⟩⟩⟩,⟨_,rfl,rfl,rfl,aC (enc:=a_) w1 (fun _=>rfl)⟩,⟨_,rfl,rfl,rfl,aC (enc:=a6) w3 (fun _=>rfl)⟩,trivial⟩ rfl rfl ⟨⟨_,rfl,rfl,rfl,.inr ⟨⟨⟨J _ rfl,J _ rfl,J _ rfl,J _ rfl,J _ rfl,J _ rfl,J _ rfl,J _ rfl,J _ rfl,J _ rfl,J _ rfl,⟨rfl,rfl,rfl⟩,J _ rfl,⟨rfl,rfl,rfl⟩,trivial⟩,trivial⟩,⟨rfl,trivial⟩⟩⟩,⟨_,rfl,rfl,rfl,aC (enc:=a_) av.2.1 (fun _=>rfl)⟩,⟨_,rfl,rfl,rfl,aC (enc:=a6) av.2.2.2 (fun _=>rfl)⟩,trivial⟩ (ag _ rfl) rfl (fun h=>absurd rfl h) rfl rfl rfl ?_;refine aI nd ?_;have qh:=ae nJ;refine aq ⟨rfl,(av.2.1,av.2.2.1,av.2.2.2),[(601,some 601),(602,some 602),(600,some 600),(3,some 3),(11,some 11)],⟨rfl,rfl,rfl,rfl,rfl,trivial,⟨⟨_,rfl,rfl,rfl,aC (enc:=a_) av.2.1 (fun _=>rfl)⟩,⟨_,rfl,rfl,rfl,aC (enc:=a6) av.2.2.2 (fun _=>rfl)⟩,⟨_,rfl,rfl,rfl,.inr ⟨⟨⟨J _ rfl,J _ rfl,J _ rfl,J _ rfl,J _ rfl,J _ rfl,J _ rfl,J _ rfl,J _ rfl,J _ rfl,J _ rfl,⟨rfl,rfl,rfl⟩,J _ rfl,⟨rfl,rfl,rfl⟩,trivial⟩,trivial⟩,⟨rfl,trivial⟩⟩⟩,trivial⟩⟩,qh⟩
           ·replace nJ:=an nJ qG;refine aY 3 rfl ?_;obtain⟨e1,Ks,nJ⟩:=ai nJ;refine cq I jC i e1 Ks aa rfl rfl rfl rfl rfl rfl rfl rfl rfl ?_;refine Zr 1 rfl ?_;obtain⟨cv,aoq,nJ⟩:=ai nJ;refine eP (I cv.1) [] [(600,some ⟨117,14,[.agg [aj bK aU.1,aj bM aU.2.1,aj bT aU.2.2.1,I aU.2.2.2.1,I aU.2.2.2.2.1,I aU.2.2.2.2.2.1,I aU.2.2.2.2.2.2.1,I aU.2.2.2.2.2.2.2.1,I aU.2.2.2.2.2.2.2.2.1,I aU.2.2.2.2.2.2.2.2.2.1,I aU.2.2.2.2.2.2.2.2.2.2.1,.arr 601 0 cv.2.1.length,aj I cv.2.2.1,.arr 603 0 cv.2.2.2.length]]⟩),(601,some ⟨119,24,cv.2.1.map a_⟩),(603,some ⟨36,4,cv.2.2.2.map a6⟩)] [(1000,some 600),(1111,some 601),(1113,some 602)] [(600,some 1000),(601,some 1111),(603,some 823)] U9 (XX aU.1 aU.2.1 aU.2.2.1 aU.2.2.2.1 aU.2.2.2.2.1 aU.2.2.2.2.2.1 aU.2.2.2.2.2.2.1 aU.2.2.2.2.2.2.2.1 aU.2.2.2.2.2.2.2.2.1 aU.2.2.2.2.2.2.2.2.2.1 aU.2.2.2.2.2.2.2.2.2.2.1 w1 w2 w3 e1 cv aoq) rfl rfl rfl rfl rfl trivial ⟨⟨rfl,rfl,rfl⟩,ag _ rfl,trivial⟩ rfl rfl ⟨⟨_,rfl,rfl,rfl,.inr ⟨⟨⟨J _ rfl,J _ rfl,J _ rfl,J _ rfl,J _ rfl,J _ rfl,J _ rfl,J _ rfl,J _ rfl,J _ rfl,J _ rfl,⟨rfl,rfl,rfl⟩,J _ rfl,⟨rfl,rfl,rfl⟩,trivial⟩,trivial⟩,⟨rfl,trivial⟩⟩⟩,⟨_,rfl,rfl,rfl,aC (enc:=a_) w1 (fun _=>rfl)⟩,⟨_,rfl,rfl,rfl,aC (enc:=a6) w3 (fun _=>rfl)⟩,trivial⟩ rfl rfl ⟨⟨_,rfl,rfl,rfl,.inr ⟨⟨⟨J _ rfl,J _ rfl,J _ rfl,J _ rfl,J _ rfl,J _ rfl,J _ rfl,J _ rfl,J _ rfl,J _ rfl,J _ rfl,⟨rfl,rfl,rfl⟩,J _ rfl,⟨rfl,rfl,rfl⟩,trivial⟩,trivial⟩,⟨rfl,trivial⟩⟩⟩,⟨_,rfl,rfl,rfl,aC (enc:=a_) cv.2.1 (fun _=>rfl)⟩,⟨_,rfl,rfl,rfl,aC (enc:=a6) cv.2.2.2 (fun _=>rfl)⟩,trivial⟩ (ag _ rfl) rfl (fun h=>absurd rfl h) rfl rfl rfl ?_;refine aI nd ?_;have mO:=ae nJ;refine aq ⟨rfl,(cv.2.1,cv.2.2.1,cv.2.2.2),[(601,some 601),(602,some 603),(600,some 600),(3,some 3),(11,some 11)],⟨rfl,rfl,rfl,rfl,rfl,trivial,⟨⟨_,rfl,rfl,rfl,aC (enc:=a_) cv.2.1 (fun _=>rfl)⟩,⟨_,rfl,rfl,rfl,aC (enc:=a6) cv.2.2.2 (fun _=>rfl)⟩,⟨_,rfl,rfl,rfl,.inr ⟨⟨⟨J _ rfl,J _ rfl,J _ rfl,J _ rfl,J _ rfl,J _ rfl,J _ rfl,J _ rfl,J _ rfl,J _ rfl,J _ rfl,⟨rfl,rfl,rfl⟩,J _ rfl,⟨rfl,rfl,rfl⟩,trivial⟩,trivial⟩,⟨rfl,trivial⟩⟩⟩,trivial⟩⟩,mO⟩
          ·intro rS aor;subst aor;obtain⟨w8,w9,kY⟩:=rS;refine au 1 rfl ?_;obtain⟨yv,Kt,eF⟩:=ai eF;refine eP (.cz [.agg [I yv.1.Log,I yv.1.dY,I yv.1.gz,I yv.1.cU,I yv.1.Value],I yv.2]) [] [(600,some ⟨117,14,[.agg [aj bK aU.1,aj bM aU.2.1,aj bT aU.2.2.1,I aU.2.2.2.1,I aU.2.2.2.2.1,I aU.2.2.2.2.2.1,I aU.2.2.2.2.2.2.1,I aU.2.2.2.2.2.2.2.1,I aU.2.2.2.2.2.2.2.2.1,I aU.2.2.2.2.2.2.2.2.2.1,I aU.2.2.2.2.2.2.2.2.2.2.1,.arr 601 0 w8.length,aj I w9,.arr 602 0 kY.length]]⟩),(601,some ⟨119,24,w8.map a_⟩),(602,some ⟨36,4,kY.map a6⟩)] [(1000,some 600),(1111,some 601),(1113,some 602)] [(600,some 1000),(601,some 1111),(602,some 1113)] U_ (X2 aU.1 aU.2.1 aU.2.2.1 aU.2.2.2.1 aU.2.2.2.2.1 aU.2.2.2.2.2.1 aU.2.2.2.2.2.2.1 aU.2.2.2.2.2.2.2.1 aU.2.2.2.2.2.2.2.2.1 aU.2.2.2.2.2.2.2.2.2.1 aU.2.2.2.2.2.2.2.2.2.2.1 w8 w9 kY yv Kt) rfl rfl rfl rfl rfl trivial ⟨⟨rfl,rfl,rfl⟩,trivial⟩ rfl rfl ⟨⟨_,rfl,rfl,rfl,.inr ⟨⟨⟨J _ rfl,J _ rfl,J _ rfl,J _ rfl,J _ rfl,J _ rfl,J _ rfl,J _ rfl,J _ rfl,J _ rfl,J _ rfl,⟨rfl,rfl,rfl⟩,J _ rfl,⟨rfl,rfl,rfl⟩,trivial⟩,trivial⟩,⟨rfl,trivial⟩⟩⟩,⟨_,rfl,rfl,rfl,aC (enc:=a_) w8 (fun _=>rfl)⟩,⟨_,rfl,rfl,rfl,aC (enc:=a6) kY (fun _=>rfl)⟩,trivial⟩ rfl rfl ⟨⟨_,rfl,rfl,rfl,.inr ⟨⟨⟨J _ rfl,J _ rfl,J _ rfl,J _ rfl,J _ rfl,J _ rfl,J _ rfl,J _ rfl,J _ rfl,J _ rfl,J _ rfl,⟨rfl,rfl,rfl⟩,J _ rfl,⟨rfl,rfl,rfl⟩,trivial⟩,trivial⟩,⟨rfl,trivial⟩⟩⟩,⟨_,rfl,rfl,rfl,aC (enc:=a_) w8 (fun _=>rfl)⟩,⟨_,rfl,rfl,rfl,aC (enc:=a6) kY (fun _=>rfl)⟩,trivial⟩ (ag _ rfl) rfl (fun h=>absurd rfl h) rfl rfl rfl ?_;refine ah 6 rfl (au 1 rfl ?_);obtain⟨bv,M5,eF⟩:=ai eF;refine eP (.arr 107 0 bv.length) [] [(107,some ⟨68,9,bv.map gR⟩),(600,some ⟨117,14,[.agg [aj bK aU.1,aj bM aU.2.1,aj bT aU.2.2.1,I aU.2.2.2.1,I aU.2.2.2.2.1,I aU.2.2.2.2.2.1,I aU.2.2.2.2.2.2.1,I aU.2.2.2.2.2.2.2.1,I aU.2.2.2.2.2.2.2.2.1,I aU.2.2.2.2.2.2.2.2.2.1,I aU.2.2.2.2.2.2.2.2.2.2.1,.arr 601 0 w8.length,aj I w9,.arr 602 0 kY.length]]⟩),(601,some ⟨119,24,w8.map a_⟩),(602,some ⟨36,4,kY.map a6⟩)] [(1000,some 600),(1111,some 601),(1113,some 602)] [(107,some 998),(600,some 1000),(601,some 1111),(602,some 1113)] U' (X1 aU.1 aU.2.1 aU.2.2.1 aU.2.2.2.1 aU.2.2.2.2.1 aU.2.2.2.2.2.1 aU.2.2.2.2.2.2.1 aU.2.2.2.2.2.2.2.1 aU.2.2.2.2.2.2.2.2.1 aU.2.2.2.2.2.2.2.2.2.1 aU.2.2.2.2.2.2.2.2.2.2.1 w8 w9 kY bv M5) rfl rfl rfl rfl rfl trivial ⟨⟨rfl,rfl,rfl⟩,trivial⟩ rfl rfl ⟨⟨_,rfl,rfl,rfl,.inr ⟨⟨⟨J _ rfl,J _ rfl,J _ rfl,J _ rfl,J _ rfl,J _ rfl,J _ rfl,J _ rfl,J _ rfl,J _ rfl,J _ rfl,⟨rfl,rfl,rfl⟩,J _ rfl,⟨rfl,rfl,rfl⟩,trivial⟩,trivial⟩,⟨rfl,trivial⟩⟩⟩,⟨_,rfl,rfl,rfl,aC (enc:=a_) w8 (fun _=>rfl)⟩,⟨_,rfl,rfl,rfl,aC (enc:=a6) kY (fun _=>rfl)⟩,trivial⟩ rfl rfl ⟨⟨_,rfl,rfl,rfl,aC (enc:=gR) bv (fun _=>rfl)⟩,⟨_,rfl,rfl,rfl,.inr ⟨⟨⟨J _ rfl,J _ rfl,J _ rfl,J _ rfl,J _ rfl,J _ rfl,J _ rfl,J _ rfl,J _ rfl,J _ rfl,J _ rfl,⟨rfl,rfl,rfl⟩,J _ rfl,⟨rfl,rfl,rfl⟩,trivial⟩,trivial⟩,⟨rfl,trivial⟩⟩⟩,⟨_,rfl,rfl,rfl,aC (enc:=a_) w8 (fun _=>rfl)⟩,⟨_,rfl,rfl,rfl,aC (enc:=a6) kY (fun _=>rfl)⟩,trivial⟩ ⟨rfl,rfl,rfl⟩ rfl (fun h=>absurd rfl h) rfl rfl rfl ?_;refine ah 1 rfl (ab 1 rfl ?_);obtain⟨y3,aos,eF⟩:=ai eF;refine cx (X:=Int) [2,3,7,8,10,11,12,13,14] [3,11,13] (fun GS=>[(16,I GS)]) (fun GS=>[(601,some ⟨119,24,w8.map a_⟩),(602,some ⟨36,4,kY.map a6⟩),(600,some ⟨117,14,[.agg [aj bK aU.1,aj bM aU.2.1,aj bT aU.2.2.1,I aU.2.2.2.1,I aU.2.2.2.2.1,I aU.2.2.2.2.2.1,I aU.2.2.2.2.2.2.1,I aU.2.2.2.2.2.2.2.1,I aU.2.2.2.2.2.2.2.2.1,I aU.2.2.2.2.2.2.2.2.2.1,I aU.2.2.2.2.2.2.2.2.2.2.1,.arr 601 0 w8.length,aj I w9,.arr 602 0 kY.length]]⟩)]) (fun GS=>ι GS=y3) rfl rfl ?_ ?_
           ·skip;refine ab 1 rfl (bn ?_);refine cN (X:=Int×Int) (Y:=(((Int×(List bq)×(List Int)×(List aH))⊕(Bool⊕Unit))⊕((List bq)×(List Int)×(List aH)))⊕Int) [2,3,7,8,10,11,12,13,14] [3,11,13] (fun q=>[(16,I q.1),(17,I q.2),(15,.arr 107 0 bv.length)]) (fun q=>[(107,some ⟨68,9,bv.map gR⟩),(600,some ⟨117,14,[.agg [aj bK aU.1,aj bM aU.2.1,aj bT aU.2.2.1,I aU.2.2.2.1,I aU.2.2.2.2.1,I aU.2.2.2.2.2.1,I aU.2.2.2.2.2.2.1,I aU.2.2.2.2.2.2.2.1,I aU.2.2.2.2.2.2.2.2.1,I aU.2.2.2.2.2.2.2.2.2.1,I aU.2.2.2.2.2.2.2.2.2.2.1,.arr 601 0 w8.length,aj I w9,.arr 602 0 kY.length]]⟩),(601,some ⟨119,24,w8.map a_⟩),(602,some ⟨36,4,kY.map a6⟩)]) (fun q=>uU t pv bv q.1 q.2) (0,0) [(107,some 107),(600,some 600),(601,some 601),(602,some 602),(3,some 3),(11,some 11),(13,some 13)] aos ⟨rfl,rfl,rfl,rfl,rfl,⟨J _ rfl,J _ rfl,⟨rfl,rfl,rfl⟩,trivial⟩,⟨⟨_,rfl,rfl,rfl,aC (enc:=gR) bv (fun _=>rfl)⟩,⟨_,rfl,rfl,rfl,.inr ⟨⟨⟨J _ rfl,J _ rfl,J _ rfl,J _ rfl,J _ rfl,J _ rfl,J _ rfl,J _ rfl,J _ rfl,J _ rfl,J _ rfl,⟨rfl,rfl,rfl⟩,J _ rfl,⟨rfl,rfl,rfl⟩,trivial⟩,trivial⟩,⟨rfl,trivial⟩⟩⟩,⟨_,rfl,rfl,rfl,aC (enc:=a_) w8 (fun _=>rfl)⟩,⟨_,rfl,rfl,rfl,aC (enc:=a6) kY (fun _=>rfl)⟩,trivial⟩⟩ (fun x1 lq jO eN AD=>?_);obtain⟨en,k⟩:=x1;change uU t pv bv en k=_ at eN;unfold uU at eN;refine aD (ab 4 rfl ?_);refine ar (b:=decide (k<((bv.length:Nat):Int))) rfl (fun xp=>?_) (fun xp=>?_)
            ·replace eN:=ak eN xp;refine Zk (aD (bn (au 5 rfl ?_)));obtain⟨e2,Yt,eN⟩:=ai eN;refine eO gR bv k e2 Yt rfl aa rfl rfl rfl rfl rfl rfl rfl rfl rfl rfl ?_;refine Zr 1 rfl ?_;refine fC gR bv k e2 _ Yt aa rfl rfl rfl rfl rfl rfl rfl ?_;refine Zr 2 rfl ?_;obtain⟨e3,Yu,eN⟩:=ai eN;refine eO gR bv k e3 Yu rfl aa rfl rfl rfl rfl rfl rfl rfl rfl rfl rfl ?_;refine Zr 1 rfl ?_;refine fC gR bv k e3 _ Yu aa rfl rfl rfl rfl rfl rfl rfl ?_;obtain⟨nv,KW,eN⟩:=ai eN;refine aW ah9 (an2 (⟨#[66,48,48,48,48,48,49,77]⟩:ByteArray) (⟨#[76,48,48,48,48,48,49,87]⟩:ByteArray) (⟨(⟨#[112,105,110,101]⟩:ByteArray),8000,0,0,0,0,0,0,0,0,0,0,0⟩:q_) pv.1 pv.2.1 e2.jf e3.a8 nv KW) rfl rfl rfl rfl rfl rfl rfl ?_;refine Zr 2 rfl ?_;refine aI (fun _=>by kernel_rfl) ?_;refine aq (ab 5 rfl (au 5 rfl ?_));obtain⟨e4,Yv,eN⟩:=ai eN;refine eO gR bv k e4 Yv rfl aa rfl rfl rfl rfl rfl rfl rfl rfl rfl rfl ?_;refine Zr 1 rfl ?_;refine fC gR bv k e4 _ Yv aa rfl rfl rfl rfl rfl rfl rfl ?_;obtain⟨wv,aot,eN⟩:=ai eN;refine aW I3 (Mk pv.1 e4.a8 wv aot) rfl rfl rfl rfl rfl rfl rfl ?_;refine Zr 2 rfl ?_;refine bu rfl rfl rfl (fun Dr=>?_) (fun Dr=>?_)
             ·rw [Dr];replace eN:=ak eN Dr;refine Zr 28 rfl ?_;refine aI (fun _=>by kernel_rfl) ?_;refine aq ?_;refine ar rfl (fun aN=>?_) Zx;clear aN;refine ab 1 rfl (aR (aZ (aJ ?_)));obtain⟨t1,KE,hq⟩:=bf eN;subst hq;have hq:t1=_:=AD;subst hq;refine aJ (aZ ?_);obtain⟨t2,aou,hq⟩:=cp KE;subst hq;have hq:=bZ eF;replace hq:=ae hq;subst hq;refine aJ (aZ ?_);obtain⟨t3,KY,hq⟩:=cp aou;subst hq;have hq:=bZ iR;replace hq:=ae hq;subst hq;refine aJ ?_;obtain⟨t4,KZ,hq⟩:=bf KY;subst hq;have hq:t4=_:=oT;subst hq;refine aJ (aZ ?_);obtain⟨t5,aov,hq⟩:=cp KZ;subst hq;have hq:=bZ h;replace hq:=ae hq;subst hq;refine aJ ?_;have K1:=ae aov;subst K1;refine ao ?_;refine aw aa rfl rfl ?_;exact(ag _ rfl)
             ·rw [Dr];replace eN:=an eN Dr;refine Zr 3 rfl ?_;obtain⟨qA,aow,eN⟩:=ai eN;refine aW Va (Ym nv qA aow) rfl rfl rfl rfl rfl rfl rfl ?_;refine Zr 3 rfl ?_;refine bu rfl rfl rfl (fun qH=>?_) (fun qH=>?_)
              ·rw [qH];replace eN:=ak eN qH;refine Zr 21 rfl ?_;refine aI (fun _=>by kernel_rfl) ?_;refine aq ?_;refine ar rfl (fun aN=>?_) Zx;clear aN;refine ab 1 rfl (aR (aZ (aJ ?_)));obtain⟨t6,aox,hq⟩:=bf eN;subst hq;have hq:t6=_:=AD;subst hq;refine aJ (aZ ?_);obtain⟨t7,aoy,hq⟩:=cp aox;subst hq;have hq:=bZ eF;replace hq:=ae hq;subst hq;refine aJ (aZ ?_);obtain⟨t8,aoz,hq⟩:=cp aoy;subst hq;have hq:=bZ iR;replace hq:=ae hq;subst hq;refine aJ ?_;obtain⟨t9,MK,hq⟩:=bf aoz;subst hq;have hq:t9=_:=oT;subst hq;refine aJ (aZ ?_);obtain⟨t10,ML,hq⟩:=cp MK;subst hq;have hq:=bZ h;replace hq:=ae hq;subst hq;refine aJ ?_;have MM:=ae ML;subst MM;refine ao ?_;refine aw aa rfl rfl ?_;exact(ag _ rfl)
              ·rw [qH];replace eN:=an eN qH;refine Zr 6 rfl ?_;obtain⟨e5,Yw,eN⟩:=ai eN;refine eO gR bv k e5 Yw rfl aa rfl rfl rfl rfl rfl rfl rfl rfl rfl rfl ?_;refine Zr 1 rfl ?_;refine fC gR bv k e5 _ Yw aa rfl rfl rfl rfl rfl rfl rfl ?_;obtain⟨e6,aoA,eN⟩:=ai eN;refine cq bT t.eu e5.jf e6 aoA aa rfl rfl rfl rfl rfl rfl rfl rfl rfl ?_;refine Zr 5 rfl ?_;refine bu rfl rfl rfl (fun Ds=>?_) (fun Ds=>?_)
               ·rw [Ds];replace eN:=ak eN Ds;refine Zr 6 rfl ?_;refine aI (fun _=>by kernel_rfl) ?_;refine aq ?_;refine ar rfl (fun aN=>?_) Zx;clear aN;refine ab 1 rfl (aR (aZ (aJ ?_)));obtain⟨t11,aoB,hq⟩:=bf eN;subst hq;have hq:t11=_:=AD;subst hq;refine aJ (aZ ?_);obtain⟨t12,aoC,hq⟩:=cp aoB;subst hq;have hq:=bZ eF;replace hq:=ae hq;subst hq;refine aJ (aZ ?_);obtain⟨t13,aoD,hq⟩:=cp aoC;subst hq;have hq:=bZ iR;replace hq:=ae hq;subst hq;refine aJ ?_;obtain⟨t14,aoE,hq⟩:=bf aoD;subst hq;have hq:t14=_:=oT;subst hq;refine aJ (aZ ?_);obtain⟨t15,aoF,hq⟩:=cp aoE;subst hq;have hq:=bZ h;replace hq:=ae hq;subst hq;refine aJ ?_;have e81:=ae aoF;subst e81;refine ao ?_;refine aw aa rfl rfl ?_;exact(ag _ rfl)
               ·rw [Ds];replace eN:=an eN Ds;refine Zr 3 rfl ?_;obtain⟨cA,aoH,eN⟩:=ai eN;refine aW ah_ (aod nv t.eu cA aoH) rfl rfl rfl rfl rfl rfl rfl ?_;refine Zr 2 rfl ?_;refine aI (fun _=>by kernel_rfl) ?_;refine aq ?_;refine ar (b:=cA !=0) rfl (fun Nk=>?_) (fun Nk=>?_)
                ·replace eN:=ak eN Nk;refine ab 1 rfl (aR (aZ (aJ ?_)));obtain⟨t16,aoI,hq⟩:=bf eN;subst hq;have hq:t16=_:=AD;subst hq;refine aJ (aZ ?_);obtain⟨t17,aoJ,hq⟩:=cp aoI;subst hq;have hq:=bZ eF;replace hq:=ae hq;subst hq;refine aJ (aZ ?_);obtain⟨t18,aoK,hq⟩:=cp aoJ;subst hq;have hq:=bZ iR;replace hq:=ae hq;subst hq;refine aJ ?_;obtain⟨t19,aoL,hq⟩:=bf aoK;subst hq;have hq:t19=_:=oT;subst hq;refine aJ (aZ ?_);obtain⟨t20,aoM,hq⟩:=cp aoL;subst hq;have hq:=bZ h;replace hq:=ae hq;subst hq;refine aJ ?_;have e89:=ae aoM;subst e89;refine ao ?_;refine aw aa rfl rfl ?_;exact(ag _ rfl)
                ·replace eN:=an eN Nk;refine cV (bP (aq (aY 3 rfl (aI nd ?_))));have e90:=ae eN;subst e90;refine aq ⟨rfl,((U (en+nv.q9)),U (k+1)),[(107,some 107),(600,some 600),(601,some 601),(602,some 602),(3,some 3),(11,some 11),(13,some 13)],⟨rfl,rfl,rfl,rfl,rfl,⟨J _ rfl,J _ rfl,⟨rfl,rfl,rfl⟩,trivial⟩,⟨⟨_,rfl,rfl,rfl,aC (enc:=gR) bv (fun _=>rfl)⟩,⟨_,rfl,rfl,rfl,.inr ⟨⟨⟨J _ rfl,J _ rfl,J _ rfl,J _ rfl,J _ rfl,J _ rfl,J _ rfl,J _ rfl,J _ rfl,J _ rfl,J _ rfl,⟨rfl,rfl,rfl⟩,J _ rfl,⟨rfl,rfl,rfl⟩,trivial⟩,trivial⟩,⟨rfl,trivial⟩⟩⟩,⟨_,rfl,rfl,rfl,aC (enc:=a_) w8 (fun _=>rfl)⟩,⟨_,rfl,rfl,rfl,aC (enc:=a6) kY (fun _=>rfl)⟩,trivial⟩⟩,AD⟩
            ·replace eN:=an eN xp;refine cD (bg ?_);obtain⟨t21,aoP,hq⟩:=bf eN;subst hq;have hq:t21=_:=AD;subst hq;refine bg (cE ?_);have e92:=ae aoP;refine aq ⟨rfl,en,[(601,some 601),(602,some 602),(600,some 600),(3,some 3),(11,some 11),(13,some 13)],⟨rfl,rfl,rfl,rfl,rfl,⟨J _ rfl,trivial⟩,⟨⟨_,rfl,rfl,rfl,aC (enc:=a_) w8 (fun _=>rfl)⟩,⟨_,rfl,rfl,rfl,aC (enc:=a6) kY (fun _=>rfl)⟩,⟨_,rfl,rfl,rfl,.inr ⟨⟨⟨J _ rfl,J _ rfl,J _ rfl,J _ rfl,J _ rfl,J _ rfl,J _ rfl,J _ rfl,J _ rfl,J _ rfl,J _ rfl,⟨rfl,rfl,rfl⟩,J _ rfl,⟨rfl,rfl,rfl⟩,trivial⟩,trivial⟩,⟨rfl,trivial⟩⟩⟩,trivial⟩⟩,e92⟩
           ·intro fZ aoR;subst aoR;replace eF:=dX eF;refine au 3 rfl ?_;obtain⟨Nh,aoS,eF⟩:=ai eF;refine aW Vb (XZ pv.1 Nh aoS) rfl rfl rfl rfl rfl rfl rfl ?_;refine Zr 2 rfl ?_;refine bu rfl rfl rfl (fun Dt=>?_) (fun Dt=>?_)
            ·rw [Dt];replace eF:=ak eF Dt;refine Zr 33 rfl ?_;refine aI (fun _=>by kernel_rfl) ?_;refine aq ?_;refine ar rfl (fun aN=>?_) Zx;clear aN;refine ab 1 rfl (aR (aZ ?_));obtain⟨t22,aoT,hq⟩:=cp eF;subst hq;have hq:=bZ iR;replace hq:=ae hq;subst hq;refine aJ ?_;obtain⟨t23,aoU,hq⟩:=bf aoT;subst hq;have hq:t23=_:=oT;subst hq;refine aJ (aZ ?_);obtain⟨t24,aoV,hq⟩:=cp aoU;subst hq;have hq:=bZ h;replace hq:=ae hq;subst hq;refine aJ ?_;have e98:=ae aoV;subst e98;refine ao ?_;refine aw aa rfl rfl ?_;exact(ag _ rfl)
            ·rw [Dt];replace eF:=an eF Dt;refine Zr 6 rfl ?_;refine bu rfl rfl rfl (fun Du=>?_) (fun Du=>?_)
             ·rw [Du];replace eF:=ak eF Du;refine Zr 27 rfl ?_;refine aI (fun _=>by kernel_rfl) ?_;refine aq ?_;refine ar rfl (fun aN=>?_) Zx;clear aN;refine ab 1 rfl (aR (aZ ?_));obtain⟨t25,aoX,hq⟩:=cp eF;subst hq;have hq:=bZ iR;replace hq:=ae hq;subst hq;refine aJ ?_;obtain⟨t26,aoY,hq⟩:=bf aoX;subst hq;have hq:t26=_:=oT;subst hq;refine aJ (aZ ?_);obtain⟨t27,aoZ,hq⟩:=cp aoY;subst hq;have hq:=bZ h;replace hq:=ae hq;subst hq;refine aJ ?_;have ao0:=ae aoZ;subst ao0;refine ao ?_;refine aw aa rfl rfl ?_;exact(ag _ rfl)
             ·rw [Du];replace eF:=an eF Du;refine Zr 5 rfl ?_;refine bu rfl rfl rfl (fun Dv=>?_) (fun Dv=>?_)
              ·rw [Dv];replace eF:=ak eF Dv;refine Zr 22 rfl ?_;refine aI (fun _=>by kernel_rfl) ?_;refine aq ?_;refine ar rfl (fun aN=>?_) Zx;clear aN;refine ab 1 rfl (aR (aZ ?_));obtain⟨t28,ao1,hq⟩:=cp eF;subst hq;have hq:=bZ iR;replace hq:=ae hq;subst hq;refine aJ ?_;obtain⟨t29,ao2,hq⟩:=bf ao1;subst hq;have hq:t29=_:=oT;subst hq;refine aJ (aZ ?_);obtain⟨t30,ao3,hq⟩:=cp ao2;subst hq;have hq:=bZ h;replace hq:=ae hq;subst hq;refine aJ ?_;have ao4:=ae ao3;subst ao4;refine ao ?_;refine aw aa rfl rfl ?_;exact(ag _ rfl)
              ·rw [Dv];replace eF:=an eF Dv;refine Zr 5 rfl ?_;refine bu rfl rfl rfl (fun Dw=>?_) (fun Dw=>?_)
               ·rw [Dw];replace eF:=ak eF Dw;refine Zr 17 rfl ?_;refine aI (fun _=>by kernel_rfl) ?_;refine aq ?_;refine ar rfl (fun aN=>?_) Zx;clear aN;refine ab 1 rfl (aR (aZ ?_));obtain⟨t31,ao5,hq⟩:=cp eF;subst hq;have hq:=bZ iR;replace hq:=ae hq;subst hq;refine aJ ?_;obtain⟨t32,ao6,hq⟩:=bf ao5;subst hq;have hq:t32=_:=oT;subst hq;refine aJ (aZ ?_);obtain⟨t33,ao7,hq⟩:=cp ao6;subst hq;have hq:=bZ h;replace hq:=ae hq;subst hq;refine aJ ?_;have ao8:=ae ao7;subst ao8;refine ao ?_;refine aw aa rfl rfl ?_;exact(ag _ rfl)
               ·rw [Dw];replace eF:=an eF Dw;refine Zr 4 rfl ?_;refine bu rfl rfl rfl (fun Dx=>?_) (fun Dx=>?_)
                ·rw [Dx];replace eF:=ak eF Dx;refine Zr 13 rfl ?_;refine aI (fun _=>by kernel_rfl) ?_;refine aq ?_;refine ar rfl (fun aN=>?_) Zx;clear aN;refine ab 1 rfl (aR (aZ ?_));obtain⟨t34,ao9,hq⟩:=cp eF;subst hq;have hq:=bZ iR;replace hq:=ae hq;subst hq;refine aJ ?_;obtain⟨t35,ao_,hq⟩:=bf ao9;subst hq;have hq:t35=_:=oT;subst hq;refine aJ (aZ ?_);obtain⟨t36,ao',hq⟩:=cp ao_;subst hq;have hq:=bZ h;replace hq:=ae hq;subst hq;refine aJ ?_;have apa:=ae ao';subst apa;refine ao ?_;refine aw aa rfl rfl ?_;exact(ag _ rfl)
                ·rw [Dx];replace eF:=an eF Dx;refine Zr 13 rfl ?_;refine aI (fun _=>by kernel_rfl) ?_;refine aq ?_;refine ar (b:=yv.1.Log !=(U ((U ((U (fZ+yv.1.gz))+yv.1.cU))+yv.2))) rfl (fun Nl=>?_) (fun Nl=>?_)
                 ·replace eF:=ak eF Nl;refine ab 1 rfl (aR (aZ ?_));obtain⟨t37,apb,hq⟩:=cp eF;subst hq;have hq:=bZ iR;replace hq:=ae hq;subst hq;refine aJ ?_;obtain⟨t38,apc,hq⟩:=bf apb;subst hq;have hq:t38=_:=oT;subst hq;refine aJ (aZ ?_);obtain⟨t39,apd,hq⟩:=cp apc;subst hq;have hq:=bZ h;replace hq:=ae hq;subst hq;refine aJ ?_;have ape:=ae apd;subst ape;refine ao ?_;refine aw aa rfl rfl ?_;exact(ag _ rfl)
                 ·replace eF:=an eF Nl;refine cV (bP ?_);have apf:=ae eF;refine aq ⟨rfl,(w8,w9,kY),[(601,some 601),(602,some 602),(600,some 600),(3,some 3),(11,some 11)],⟨rfl,rfl,rfl,rfl,rfl,trivial,⟨⟨_,rfl,rfl,rfl,aC (enc:=a_) w8 (fun _=>rfl)⟩,⟨_,rfl,rfl,rfl,aC (enc:=a6) kY (fun _=>rfl)⟩,⟨_,rfl,rfl,rfl,.inr ⟨⟨⟨J _ rfl,J _ rfl,J _ rfl,J _ rfl,J _ rfl,J _ rfl,J _ rfl,J _ rfl,J _ rfl,J _ rfl,J _ rfl,⟨rfl,rfl,rfl⟩,J _ rfl,⟨rfl,rfl,rfl⟩,trivial⟩,trivial⟩,⟨rfl,trivial⟩⟩⟩,trivial⟩⟩,apf⟩
         ·intro w7 Kk;subst Kk;replace iR:=dX iR;obtain⟨w4,w5,w6⟩:=w7;refine aY 3 rfl (aI nd ?_);have apg:=ae iR;subst apg;refine aq ⟨rfl,((U (i+1)),w4,w5,w6),[(601,some 601),(602,some 602),(600,some 600),(3,some 3),(11,some 11)],⟨rfl,rfl,rfl,rfl,rfl,⟨J _ rfl,trivial⟩,⟨⟨_,rfl,rfl,rfl,aC (enc:=a_) w4 (fun _=>rfl)⟩,⟨_,rfl,rfl,rfl,aC (enc:=a6) w6 (fun _=>rfl)⟩,⟨_,rfl,rfl,rfl,.inr ⟨⟨⟨J _ rfl,J _ rfl,J _ rfl,J _ rfl,J _ rfl,J _ rfl,J _ rfl,J _ rfl,J _ rfl,J _ rfl,J _ rfl,⟨rfl,rfl,rfl⟩,J _ rfl,⟨rfl,rfl,rfl⟩,trivial⟩,trivial⟩,⟨rfl,trivial⟩⟩⟩,trivial⟩⟩,oT⟩
        ·replace iR:=an iR jM;refine cD (bg ?_);obtain⟨t40,aph,hq⟩:=bf iR;subst hq;have hq:t40=_:=oT;subst hq;refine bg (cE ?_);have api:=ae aph;refine aq ⟨rfl,(),[],⟨rfl,rfl,rfl,rfl,rfl,trivial,trivial⟩,api⟩
       ·rw [Dq];replace iR:=an iR Dq;refine ah 3 rfl ?_;refine ar rfl Zx (fun aN=>?_);clear aN;refine cD (bg ?_);obtain⟨t41,apj,hq⟩:=bf iR;subst hq;have hq:t41=_:=oT;subst hq;refine bg (cE ?_);have apk:=ae apj;refine aq ⟨rfl,(),[],⟨rfl,rfl,rfl,rfl,rfl,trivial,trivial⟩,apk⟩
      ·intro w apl;subst apl;replace h:=dX h;refine aD (fJ cL ?_);obtain⟨Nj,apm,h⟩:=ai h;refine aW vW (xm Nj apm) rfl rfl rfl rfl rfl rfl rfl ?_;refine ah 1 rfl (aR ?_);have apn:=ae h;subst apn;refine ao ?_;refine aw aa rfl rfl ?_;exact(ag _ rfl)
theorem b_ {n:Int} (h1:-9223372036854775808≤n) (h2:n≤9223372036854775807):U n=n:=Je h1 h2
theorem cC {k:Nat} (h:k<9223372036854775807):U ((k:Int)+1)=((k+1:Nat):Int):=by
  rw [b_ (by omega) (by omega)];rfl
theorem aT {α β:Type} (a:α) (f:α→Option β):(some a).bind f=f a:=rfl
section
variable{X Y:Type} {step:X→Option (X⊕Y)}
theorem kZ (st:Nat→X) (k:Nat) {y:Y} (h:∀j,j<k→step (st j)=some (.inl (st (j+1)))) (he:step (st k)=some (.inr y)):bR step (st 0)=some y:=by
  have:∀j,j≤k→bR step (st (k -j))=some y:=by
    intro j
    induction j with
    |zero=>intro _;exact gQ he
    |succ j ih=>
      intro hj;rw [nm (h (k -(j+1)) (by omega)),show k -(j+1)+1=k -j by omega]
      exact ih (by omega)
  simpa using this k (Nat.le_refl _)
theorem Nn {α:Type} (l:List α) (st:Nat→X) (p:α→Bool) (out:α→Y) (fin:Y)
    (h1:∀j (hj:j<l.length),p l[j]=false→step (st j)=some (.inl (st (j+1)))) (h2:∀j (hj:j<l.length),p l[j]=true→step (st j)=some (.inr (out l[j]))) (h3:step (st l.length)=some (.inr fin)):
    bR step (st 0)=some ((l.find? p).elim fin out):=by
  cases hf:l.find? p with
  |none=>
    rw [List.find?_eq_none] at hf;refine kZ st l.length (fun j hj=>h1 j hj ?_) h3;have:=hf l[j] (List.getElem_mem hj);simpa using this
  |some a=>
    rw [List.find?_eq_some_iff_getElem] at hf;obtain⟨hp,i,hi,hia,cn⟩:=hf;refine kZ st i (fun j hj=>h1 j (by omega) ?_) ?_
    · simpa using cn j hj
    · subst hia
      exact h2 i hi hp
theorem xx {α S:Type} (l:List α) (f:S→α→S) (s0:S) (mk:S→Nat→X) (out:S→Y) (I:Nat→S→Prop) (h0:I 0 s0) (hI:∀j s (hj:j<l.length),I j s→I (j+1) (f s l[j]))
    (h:∀s j (hj:j<l.length),I j s→step (mk s j)=some (.inl (mk (f s l[j]) (j+1)))) (he:∀s,I l.length s→step (mk s l.length)=some (.inr (out s))):bR step (mk s0 0)=some (out (l.foldl f s0)):=by
  have hF:∀j,j≤l.length→I j ((l.take j).foldl f s0):=by
    intro j
    induction j with
    |zero=>intro _;simpa using h0
    |succ j ih=>
      intro hj;rw [List.take_succ_eq_append_getElem (by omega),List.foldl_append];exact hI j _ (by omega) (ih (by omega))
  have:=kZ (step:=step) (fun j=>mk ((l.take j).foldl f s0) j) l.length (y:=out (l.foldl f s0)) (fun j hj=>by
    rw [h _ j hj (hF j (by omega)),List.take_succ_eq_append_getElem hj,List.foldl_append];rfl) (by
    have:=he _ (hF l.length (Nat.le_refl _));rw [List.take_length] at this⊢;exact this)
  simpa using this
theorem GU {α S:Type} (l:List α) (f:S→α→S) (s0:S) (mk:S→Nat→X) (out:S→Y)
    (h:∀s j (hj:j<l.length),step (mk s j)=some (.inl (mk (f s l[j]) (j+1)))) (he:∀s,step (mk s l.length)=some (.inr (out s))):bR step (mk s0 0)=some (out (l.foldl f s0)):=
  xx l f s0 mk out (fun _ _=>True) trivial (fun _ _ _ _=>trivial) (fun s j hj _=>h s j hj) (fun s _=>he s)
end
theorem dw {α:Type} {l:List α} {j:Nat} (h:j<l.length):aK l (j:Int)=some l[j]:=acM h
theorem eb {j n:Nat} (h:j<n):decide ((j:Int)<(n:Int))=true:=decide_eq_true (by omega)
theorem eU (n:Nat):decide ((n:Int)<(n:Int))=false:=decide_eq_false (by omega)
theorem No {X Y:Type} {step:X→Option (X⊕Y)} (n:Nat) (st:Nat→X) (p:Nat→Bool) (out:Nat→Y) (fin:Y)
    (h1:∀j,j<n→p j=false→step (st j)=some (.inl (st (j+1)))) (h2:∀j,j<n→p j=true→step (st j)=some (.inr (out j))) (h3:step (st n)=some (.inr fin)):
    bR step (st 0)=some (((List.range n).find? p).elim fin out):=by
  refine Nn (List.range n) st p out fin (fun j hj hp=>?_) (fun j hj hp=>?_) (by simpa using h3)
  · rw [List.length_range] at hj
    exact h1 j hj (by simpa using hp)
  · rw [List.length_range] at hj
    have:=h2 j hj (by simpa using hp);simpa using this
theorem AE {X β:Type} {step:X→Option (X⊕(β⊕Unit))} (n:Nat) (st:Nat→X) (p:Nat→Bool) (b:β)
    (h:∀j,j<n→step (st j)=bif p j then some (.inl (st (j+1))) else some (.inr (.inl b))) (h3:step (st n)=some (.inr (.inr ()))):
    bR step (st 0)=some (bif(List.range n).all p then .inr () else .inl b):=by
  rw [No n st (fun j=>!p j) (fun _=>.inl b) (.inr ()) (fun j hj hp=>?_) (fun j hj hp=>?_) h3]
  · cases hf:(List.range n).find? (fun j=>!p j) with
    |none=>
      rw [List.find?_eq_none] at hf
      have:(List.range n).all p=true:=by
        rw [List.all_eq_true];intro x hx;simpa using hf x hx
      rw [this];rfl
    |some a=>
      have h1:=List.find?_some hf;have h2:=List.mem_of_find?_eq_some hf
      have:(List.range n).all p=false:=by
        rw [List.all_eq_false];exact⟨a,h2,by simpa using h1⟩
      rw [this];rfl
  · have qI:p j=true:=by simpa using hp
    rw [h j hj,qI];rfl
  · have qI:p j=false:=by simpa using hp
    rw [h j hj,qI];rfl
theorem jt {α β:Type} (x:α) (K:α→β):cH x K=K x:=rfl
theorem Yx (a b:Int):decide (a<b)=!decide (b≤a):=by
  by_cases h:a<b
  · rw [decide_eq_true h,decide_eq_false (by omega)]
    rfl
  · rw [decide_eq_false h,decide_eq_true (by omega)]
    rfl
theorem apq (a b:Int):decide (a≤b)=!decide (b<a):=by
  by_cases h:a≤b
  · rw [decide_eq_true h,decide_eq_false (by omega)]
    rfl
  · rw [decide_eq_false h,decide_eq_true (by omega)]
    rfl
theorem kc {n:Int} (h:n≠0):(n !=0)=true:=by simp [h]
theorem Dy {X Y α S:Type} {step:X→Option (X⊕Y)} (l:List α) (bad:α→Bool) (f:S→α→S) (s0:S) (mk:S→Nat→X) (E:Y) (out:S→Y) (I:Nat→S→Prop) (h0:I 0 s0) (hI:∀j s (hj:j<l.length),bad l[j]=false→I j s→I (j+1) (f s l[j]))
    (h:∀s j (hj:j<l.length),I j s→bad l[j]=false→step (mk s j)=some (.inl (mk (f s l[j]) (j+1)))) (hb:∀s j (hj:j<l.length),I j s→bad l[j]=true→step (mk s j)=some (.inr E)) (he:∀s,I l.length s→step (mk s l.length)=some (.inr (out s))):
    bR step (mk s0 0)=some (bif l.any bad then E else out (l.foldl f s0)):=by
  have:∀(r:List α) (j:Nat) (s:S),l.drop j=r→j≤l.length→I j s→bR step (mk s j)=some (bif r.any bad then E else out (r.foldl f s)):=by
    intro r
    induction r with
    |nil=>
      intro j s hr hj hs;have:l.length≤j:=List.drop_eq_nil_iff.1 hr;have:j=l.length:=by omega
      subst this;exact gQ (he s hs)
    |cons a r ih=>
      intro j s hr hj hs
      have cn:j<l.length:=by
        rcases Nat.lt_or_ge j l.length with h|h
        · exact h
        · rw [List.drop_eq_nil_of_le h] at hr
          exact absurd hr (by simp)
      have iM:=List.drop_eq_getElem_cons cn;rw [hr] at iM;obtain⟨ha,AF⟩:=List.cons.inj iM;rw [List.any_cons,List.foldl_cons,ha];cases kz:bad l[j] with
      |true=>exact gQ (hb s j cn hs kz)
      |false=>
        rw [nm (h s j cn hs kz)];exact ih (j+1) (f s l[j]) AF.symm (by omega) (hI j s cn kz hs)
  exact this l 0 s0 (List.drop_zero ..) (by omega) h0
def GV (s:Sp) (low:Int) (high:Int):Bool:=
  (bif(decide (low≤s.a)) then(bif(decide (s.a≤high)) then(bif(decide (low≤s.b)) then(decide (s.b≤high)) else false) else false) else false)
def GW (s:Sp):Int:=
  (U (s.b -s.a))
def pK (s:Sp):Prop:=-600≤s.a∧s.b≤600∧s.a<s.b
instance(s:Sp):Decidable (pK s):=by unfold pK;exact inferInstance
def xy (s:Sp):Prop:=0≤s.a∧s.b≤20000∧s.a<s.b
instance(s:Sp):Decidable (xy s):=by unfold xy;exact inferInstance
def mY (b:Bx):Prop:=pK b.x∧pK b.y∧xy b.z
instance(b:Bx):Decidable (mY b):=by unfold mY;exact inferInstance
theorem aps (s:Sp):Da s=decide (xy s):=by
  unfold Da xy;by_cases h1:0≤s.a<;>by_cases h2:s.b≤20000<;>by_cases h3:s.a<s.b<;>simp [h1,h2,h3]
theorem Yy (b:Bx):Au b=some (decide (mY b)):=by
  unfold Au
  have:=Dy (step:=fun q:Int=>uS b q) [b.x,b.y] (fun e=>!decide (pK e)) (fun(u:Unit) _=>u) () (fun _ j=>(j:Int)) (.inl false) (fun _=>.inr ()) (fun _ _=>True) trivial (fun _ _ _ _ _=>trivial) (fun s j hj _ hb=>by
    unfold uS;have hj2:j<2:=hj;rw [decide_eq_true (p:=(j:Int)<2) (by omega),cond_true,dw hj,aT];have hc:pK ([b.x,b.y][j]):=by simpa using hb
    unfold pK at hc;rw [decide_eq_false (by omega),decide_eq_false (by omega),decide_eq_false (by omega),cC (by omega)];rfl) (fun s j hj _ hb=>by
    unfold uS;have hj2:j<2:=hj;rw [decide_eq_true (p:=(j:Int)<2) (by omega),cond_true,dw hj,aT];have hc:¬pK ([b.x,b.y][j]):=by simpa using hb
    unfold pK at hc;by_cases h1:([b.x,b.y][j]).a< -600
    · rw [decide_eq_true h1];rfl
    · rw [decide_eq_false h1]
      by_cases h2:600<([b.x,b.y][j]).b
      · rw [decide_eq_true h2];rfl
      · rw [decide_eq_false h2,decide_eq_true (by omega)];rfl) (fun _ _=>by
    unfold uS;rfl)
  rw [show((0:Nat):Int)=0 from rfl] at this
  rw [this,aT,aps];unfold mY;by_cases h1:pK b.x<;>by_cases h2:pK b.y<;>by_cases h3:xy b.z<;>simp [h1,h2,h3]
def pL (b:Bx):Bool:=
  (bif(decide (b.x.b≤b.x.a)) then true else(bif(decide (b.y.b≤b.y.a)) then true else(decide (b.z.b≤b.z.a))))
def Np (b:Bx):Bool:=
 (bif(!(pL b)) then(bif(GV b.x (-600) 600) then(bif(GV b.y (-600) 600) then(GV b.z 0 20000) else false) else false) else false)
theorem Yz (b:Bx):Np b=decide (mY b):=by
  unfold Np pL GV;rw [Bool.eq_iff_iff,decide_eq_true_eq];unfold mY pK xy;constructor
  · intro h
    have h0:¬b.x.b≤b.x.a:=fun q=>by rw [decide_eq_true q] at h;exact absurd h (by simp)
    rw [decide_eq_false h0] at h;have h1:¬b.y.b≤b.y.a:=fun q=>by rw [decide_eq_true q] at h;exact absurd h (by simp)
    rw [decide_eq_false h1] at h;have h2:¬b.z.b≤b.z.a:=fun q=>by rw [decide_eq_true q] at h;exact absurd h (by simp)
    rw [decide_eq_false h2] at h;simp only [cond_false,Bool.not_false,cond_true,Bool.cond_eq_true_distrib,decide_eq_true_eq] at h;by_cases k1:-600≤b.x.a<;>by_cases k2:b.x.b≤600<;>by_cases k3:-600≤b.y.a<;>by_cases k4:b.y.b≤600<;>by_cases k5:0≤b.z.a<;>by_cases k6:b.z.b≤20000<;>simp [k1,k2,k3,k4,k5,k6] at h⊢<;>omega
  · rintro⟨⟨a1,a2,a3⟩,⟨b1,b2,b3⟩,c1,c2,c3⟩
    rw [decide_eq_false (p:=b.x.b≤b.x.a) (by omega),decide_eq_false (p:=b.y.b≤b.y.a) (by omega),decide_eq_false (p:=b.z.b≤b.z.a) (by omega),decide_eq_true a1,decide_eq_true (p:=b.x.a≤600) (by omega),decide_eq_true (p:=-600≤b.x.b) (by omega),decide_eq_true a2,decide_eq_true b1,decide_eq_true (p:=b.y.a≤600) (by omega),decide_eq_true (p:=-600≤b.y.b) (by omega),decide_eq_true b2,decide_eq_true c1,decide_eq_true (p:=b.z.a≤20000) (by omega),decide_eq_true (p:=0≤b.z.b) (by omega),decide_eq_true c2];rfl
def GX (b:ma):Int:=
 (bif(!(Np b.a8)) then 0 else(U ((U ((GW b.a8.x)*(GW b.a8.y)))*(GW b.a8.z))))
theorem YA (b:ma):xv b=some (GX b):=by
  unfold xv GX;rw [Yy,Yz,aT];cases decide (mY b.a8)<;>rfl
theorem apu (e:Sp):(!(wN e))=(jZ e.a||jZ e.b):=by
  rw [Bool.eq_iff_iff];unfold wN jZ;simp only [Bool.cond_eq_ite,Bool.not_eq_true',Bool.or_eq_true,decide_eq_true_eq];by_cases h1:-600≤min e.a e.b
  · rw [if_pos h1,decide_eq_false_iff_not]
    by_cases h2:e.a< -600<;>by_cases h3:e.b< -600<;>simp [h2,h3]<;>omega
  · rw [if_neg h1]
    by_cases h2:e.a< -600<;>by_cases h3:e.b< -600<;>simp [h2,h3]<;>omega
theorem apv (s:cb) (v:Int):sM s v=rj s v:=by
  unfold sM rj;cases decide (v<((s.Rows.length:Nat):Int)) with
  |false=>rfl
  |true=>
    rw [cond_true,cond_true];cases aK s.Rows v with
    |none=>rfl
    |some e=>
      rw [aT,aT,aT,apu];cases jZ e.a<;>cases jZ e.b<;>rfl
theorem apw (s:cb) (v:Int):sO s v=rk s v:=by
  unfold sO rk mP lM;cases decide (v<((s.Rows.length:Nat):Int)) with
  |false=>rfl
  |true=>
    rw [cond_true,cond_true];cases aK s.Rows v with
    |none=>rfl
    |some e=>rfl
theorem GY (s:cb):uB s=oC s:=by
  unfold uB oC;have h1:(fun q=>sM s q)=(fun q=>rj s q):=funext fun v=>apv s v
  have h2:(fun q=>sO s q)=(fun q=>rk s q):=funext fun v=>apw s v
  rw [h1,h2];rfl
theorem apx (l:List aG) (n v:Int):sP l n v=sH l n v:=by
  unfold sP sH;cases decide (v<((l.length:Nat):Int)) with
  |false=>rfl
  |true=>
    rw [cond_true,cond_true];cases aK l v with
    |none=>rfl
    |some e=>
      simp only [aT];rw [GY]
theorem uV (l:List aG):rn l=jj l:=by
  unfold rn jj;have h1:(fun q:Int×Int=>sP l q.1 q.2)=(fun q=>sH l q.1 q.2):=funext fun q=>apx l q.1 q.2
  rw [h1]
def tA (s:Sp) (low:Int) (high:Int):Bool:=
  (bif(decide (low≤s.a)) then(decide (s.b≤high)) else false)
theorem Nq (s:Sp) (low high:Int) (h:¬s.b≤s.a):oF s low high=tA s low high:=by
  unfold oF tA;rw [show min s.a s.b=s.a by omega,show max s.a s.b=s.b by omega]
def xz (b:Bx):Bool:=
  (bif(tA b.x (-600) 600) then(bif(tA b.y (-600) 600) then(tA b.z 0 20000) else false) else false)
def rT (l:List Df) (i:Int):Option (Int⊕(Int⊕Unit)):=
  (bif(decide (i<((l.length:Nat):Int))) then(β ((β (aK l i) (fun e=>(bif(decide (e.k<1)) then some true else(β (aK l i) (fun e1=>some (decide (6<e1.k))))))):Option Bool) (fun vv=>(bif vv then some (ι (κ 10)) else(β (aK l i) (fun e2=>(bif(pL e2.b) then some (ι (κ 19)) else(β (aK l i) (fun e3=>(bif(!(xz e3.b)) then some (ι (κ 9)) else some (κ (U (i+1)))))))))))) else some (ι (ι ())))
theorem apy (l:List Df) (v:Int):oG l v=rT l v:=by
  unfold oG rT;cases decide (v<((l.length:Nat):Int)) with
  |false=>rfl
  |true=>
    rw [cond_true,cond_true];cases aK l v with
    |none=>rfl
    |some e=>
      simp only [aT];unfold rq pL xz;simp only [jt,nC];by_cases tO:e.k<1
      · rw [decide_eq_true tO]
        rfl
      · rw [decide_eq_false tO]
        by_cases kh:6<e.k
        · rw [decide_eq_true kh]
          rfl
        · rw [decide_eq_false kh]
          by_cases hx:e.b.x.b≤e.b.x.a
          · rw [decide_eq_true hx]
            rfl
          · rw [decide_eq_false hx]
            by_cases hy:e.b.y.b≤e.b.y.a
            · rw [decide_eq_true hy]
              rfl
            · rw [decide_eq_false hy]
              by_cases hz:e.b.z.b≤e.b.z.a
              · rw [decide_eq_true hz]
                rfl
              · rw [decide_eq_false hz,Nq _ _ _ hx,Nq _ _ _ hy,Nq _ _ _ hz]
                cases tA e.b.x (-600) 600<;>cases tA e.b.y (-600) 600<;>cases tA e.b.z 0 20000<;>rfl
def uW (l:List Df):Option Int:=
  (bif(decide (64<((l.length:Nat):Int))) then some 4 else(β ((bR (fun q=>rT l q) 0):Option (Int⊕Unit)) (Sum.elim (fun q=>some q) (fun _=>some 0))))
theorem apz (l:List Df):lR l=uW l:=by
  unfold lR uW;have h1:(fun q=>oG l q)=(fun q=>rT l q):=funext fun v=>apy l v
  rw [h1]
def Nr (p:aQ):Bool:=
 (bif(decide (1≤p.dB)) then(bif(decide (p.dB≤600)) then(bif(decide (1≤p.dR)) then(decide (p.dR≤600)) else false) else false) else false)
def iC (p:aQ):(Int×Int):=
 (bif(!(Nr p)) then(0,0) else(bif(decide (p.dM<0)) then(0,0) else(bif(decide (200<p.dM)) then(0,0) else((U (Int.tdiv (U ((U (p.dB*(U (1000+p.dM))))+999)) 1000)),U (Int.tdiv (U ((U (p.dR*(U (1000+p.dM))))+999)) 1000)))))
theorem GZ (p:aQ):jn p=iC p:=by
  unfold jn iC Ci Nr Cj;cases decide (1≤p.dB)<;>cases decide (p.dB≤600)<;>cases decide (1≤p.dR)<;>cases decide (p.dR≤600)<;>rfl
def AG (p:aQ) (i:Int):Option (Int⊕(Int⊕Unit)):=
 (bif(decide (i<((p.bQ.length:Nat):Int))) then(β (aK p.bQ i) (fun e=>(bif(decide (e<100)) then some (ι (κ 9)) else(β (aK p.bQ i) (fun e1=>(bif(decide (20000<e1)) then some (ι (κ 9)) else(bif(decide (0<i)) then(β (aK p.bQ i) (fun e2=>(β (aK p.bQ (U (i -1))) (fun e3=>(bif(decide (e2≤e3)) then some (ι (κ 11)) else some (κ (U (i+1)))))))) else some (κ (U (i+1)))))))))) else some (ι (ι ())))
theorem apA (p:aQ) (v:Int):sS p v=AG p v:=by
  unfold sS AG;cases aK p.bQ v with
  |none=>rfl
  |some e=>rfl
def xA (p:aQ) (i1:Int):Option (Int⊕(Int⊕Unit)):=
 (bif(decide (i1<((p.da.length:Nat):Int))) then(β (aK p.da i1) (fun e4=>(bif(decide (e4<0)) then some (ι (κ 9)) else(β (aK p.da i1) (fun e5=>(bif(decide (1000000<e5)) then some (ι (κ 9)) else some (κ (U (i1+1))))))))) else some (ι (ι ())))
theorem apB (p:aQ) (v:Int):sT p v=xA p v:=by
  unfold sT xA;cases aK p.da v with
  |none=>rfl
  |some e=>rfl
theorem Ns (l:List aG):sW l=rm l:=by
  unfold sW rm qu;rw [uV];cases jj l with
  |none=>rfl
  |some c=>
    simp only [aT];cases h:(c !=0) with
    |true=>
      rw [cond_true,cond_true,aT,gQ (y:=(0:Int)) rfl,aT]
    |false=>rfl
structure oU (s:cb):Prop where
  len:s.Rows.length≤120
  low:-60≤s.bY∧s.bY+s.Rows.length≤60
  tB:∀e∈s.Rows,-600≤e.a∧e.a≤600∧-600≤e.b∧e.b≤600
theorem YB {n:Int} (h:jZ n=false):-600≤n∧n≤600:=by
  unfold jZ at h;by_cases h1:n< -600
  · rw [decide_eq_true h1] at h
    exact absurd h (by simp)
  · rw [decide_eq_false h1,cond_false,decide_eq_false_iff_not] at h
    omega
theorem YC (s:cb) (hl:cM s.bY):∃c,oC s=some c∧(c=0→oU s):=by
  unfold cM at hl;unfold oC;by_cases h1:120<s.Rows.length
  · rw [decide_eq_true (by omega)]
    exact⟨4,rfl,fun h=>by omega⟩
  · rw [decide_eq_false (by omega),cond_false]
    by_cases h2:s.bY< -60
    · rw [decide_eq_true h2]
      exact⟨9,rfl,fun h=>by omega⟩
    · rw [decide_eq_false h2,cond_false,b_ (by omega) (by omega)]
      by_cases h3:60 -((s.Rows.length:Nat):Int)<s.bY
      · rw [decide_eq_true h3]
        exact⟨9,rfl,fun h=>by omega⟩
      · rw [decide_eq_false h3,cond_false]
        have mi:=AE (step:=fun q:Int=>rj s q) s.Rows.length (fun j=>(j:Int)) (fun j=>(s.Rows[j]?).elim true fun e=>!(jZ e.a||jZ e.b)) (9:Int) (fun j hj=>by
          unfold rj;rw [eb hj,cond_true,dw hj,aT,aT,cC (by omega),List.getElem?_eq_getElem hj];show _=bif !(jZ s.Rows[j].a||jZ s.Rows[j].b) then _ else _
          cases jZ s.Rows[j].a<;>cases jZ s.Rows[j].b<;>rfl) (by
          unfold rj;rw [eU];rfl)
        have e0:((0:Nat):Int)=0:=rfl;rw [e0] at mi;rw [mi,aT];cases sj:(List.range s.Rows.length).all (fun j=>(s.Rows[j]?).elim true fun e=>!(jZ e.a||jZ e.b)) with
        |false=>exact⟨9,rfl,fun h=>by omega⟩
        |true=>
          have fm:oU s:=by
            refine⟨by omega,by omega,fun e he=>?_⟩;obtain⟨j,hj,rfl⟩:=List.getElem_of_mem he;rw [List.all_eq_true] at sj;have:=sj j (List.mem_range.2 hj);rw [List.getElem?_eq_getElem hj] at this;have h4:(!(jZ s.Rows[j].a||jZ s.Rows[j].b))=true:=this;rw [Bool.not_eq_true',Bool.or_eq_false_iff] at h4;have h5:=YB h4.1;have h6:=YB h4.2;omega
          rw [cond_true,Sum.elim_inr];by_cases h0:s.Rows.length=0
          · rw [show((((s.Rows.length:Nat):Int))==0)=true by simp [h0],cond_true]
            cases(s.bY !=0) with
            |true=>exact⟨19,rfl,fun h=>by omega⟩
            |false=>exact⟨0,rfl,fun _=>fm⟩
          · rw [show((((s.Rows.length:Nat):Int))==0)=false by simp;intro h;simp [h] at h0,cond_false]
            have g0:=dw (l:=s.Rows) (j:=0) (by omega);rw [e0] at g0;have g1:=dw (l:=s.Rows) (j:=s.Rows.length -1) (by omega);rw [show((s.Rows.length -1:Nat):Int)=((s.Rows.length:Nat):Int) -1 by omega] at g1
            rw [g0,aT,b_ (by omega) (by omega),g1,aT];cases lM s.Rows[0] with
            |true=>exact⟨19,rfl,fun h=>by omega⟩
            |false=>
              rw [cond_false];cases lM s.Rows[s.Rows.length -1] with
              |true=>exact⟨19,rfl,fun h=>by omega⟩
              |false=>
                rw [cond_false]
                have YD:=AE (step:=fun q:Int=>rk s q) s.Rows.length (fun j=>(j:Int)) (fun j=>(s.Rows[j]?).elim true fun e=>!(lM e&&!(mI bU e (⟨0,0⟩:Sp)))) (19:Int) (fun j hj=>by
                  unfold rk;rw [eb hj,cond_true,dw hj,aT,aT,cC (by omega),List.getElem?_eq_getElem hj];show _=bif !(lM s.Rows[j]&&!(mI bU s.Rows[j] (⟨0,0⟩:Sp))) then _ else _
                  cases lM s.Rows[j]<;>cases mI bU s.Rows[j] (⟨0,0⟩:Sp)<;>rfl) (by
                  unfold rk;rw [eU];rfl)
                rw [e0] at YD;rw [YD,aT];cases(List.range s.Rows.length).all (fun j=>(s.Rows[j]?).elim true fun e=>!(lM e&&!(mI bU e (⟨0,0⟩:Sp)))) with
                |false=>exact⟨19,rfl,fun h=>by omega⟩
                |true=>exact⟨0,rfl,fun _=>fm⟩
def bJ (l:List aG):Int:=(l.map fun e=>e.aX).sum
theorem tC {l:List aG} {j:Nat} (hj:j<l.length):bJ (l.take (j+1))=bJ (l.take j)+l[j].aX:=by
  unfold bJ;rw [List.take_succ_eq_append_getElem hj,List.map_append,List.sum_append];simp
structure kI (l:List aG):Prop where
  len:l.length≤24
  sec:∀e∈l,oU e.bL∧1≤e.aX∧oC e.bL=some 0
  ml:bJ l≤20000
theorem Dz (l:List aG) (hl:∀e∈l,cM e.bL.bY∧cM e.aX):∃c,jj l=some c∧(c=0→kI l):=by
  unfold jj;by_cases h0:l.length=0
  · rw [show((((l.length:Nat):Int))==0)=true by simp [h0]]
    exact⟨3,rfl,fun h=>by omega⟩
  · rw [show((((l.length:Nat):Int))==0)=false by simp;intro h;simp [h] at h0,cond_false]
    by_cases h1:24<l.length
    · rw [decide_eq_true (by omega)]
      exact⟨4,rfl,fun h=>by omega⟩
    · rw [decide_eq_false (by omega),cond_false]
      obtain⟨y,hy,hG⟩:=uj (step:=fun q:Int×Int=>sH l q.1 q.2) (fun q=>∃j:Nat,j≤l.length∧q=(bJ (l.take j),(j:Int))∧0≤bJ (l.take j)∧bJ (l.take j)≤20000∧∀e∈l.take j,oU e.bL∧1≤e.aX∧oC e.bL=some 0) (fun q=>l.length -q.2.toNat) (fun y=>(∃c,y=.inl c∧c≠0)∨(y=.inr ()∧kI l)) (by
        rintro q ⟨j,hj,rfl,kD,hs,ha⟩;unfold sH;dsimp only;rcases Nat.lt_or_ge j l.length with cn|tS
        · have hI:=hl _ (List.getElem_mem cn)
          have DA:=hI.2;unfold cM at DA;obtain⟨c,hc,ep⟩:=YC l[j].bL hI.1;rw [eb cn,cond_true,dw cn];simp only [aT];rw [hc,aT];by_cases h2:c=0
          · subst h2
            rw [show((0:Int)!=0)=false from rfl,cond_false]
            cases((l[j].bL.Rows.length:Int)==0) with
            |true=>exact .inr ⟨_,rfl,.inl ⟨_,rfl,by omega⟩⟩
            |false=>
              rw [cond_false];by_cases h3:l[j].aX<1
              · rw [decide_eq_true h3]
                exact .inr ⟨_,rfl,.inl ⟨_,rfl,by omega⟩⟩
              · rw [decide_eq_false h3,cond_false,b_ (n:=20000 -_) (by omega) (by omega)]
                by_cases h4:20000 -bJ (l.take j)<l[j].aX
                · rw [decide_eq_true h4]
                  exact .inr ⟨_,rfl,.inl ⟨_,rfl,by omega⟩⟩
                · rw [decide_eq_false h4,cond_false,b_ (n:=bJ _+_) (by omega) (by omega),cC (by omega)]
                  refine .inl ⟨_,rfl,⟨j+1,by omega,by rw [tC cn],by rw [tC cn];omega,by rw [tC cn];omega,?_⟩,?_⟩
                  · intro e he
                    rw [List.take_succ_eq_append_getElem cn] at he;rcases List.mem_append.1 he with he|he
                    · exact ha e he
                    · rw [List.mem_singleton] at he
                      subst he;exact⟨ep rfl,by omega,hc⟩
                  · show l.length -(((j+1:Nat):Int)).toNat<l.length -((j:Int)).toNat
                    omega
          · rw [show((c:Int)!=0)=true by simp [h2],cond_true]
            exact .inr ⟨_,rfl,.inl ⟨_,rfl,h2⟩⟩
        · have:j=l.length:=by omega
          subst this;rw [eU,cond_false];rw [List.take_length] at hs ha;exact .inr ⟨_,rfl,.inr ⟨rfl,⟨by omega,ha,hs⟩⟩⟩) (0,0) ⟨0,by omega,rfl,by simp [bJ],by simp [bJ],by simp⟩
      rw [hy,aT];rcases hG with⟨c,rfl,hc⟩|⟨rfl,fm⟩
      · exact⟨c,rfl,fun h=>absurd h hc⟩
      · exact⟨0,rfl,fun _=>fm⟩
def cm (a b:Sp):Int:=max 0 (min a.b b.b -max a.a b.a)
theorem k7 (a b:Sp):0≤cm a b:=by unfold cm;omega
theorem YE {a b:Sp} (h:b.a≤b.b):cm a b≤b.b -b.a:=by unfold cm;omega
theorem uX {a b:Sp} {m:Int} (h0:0≤m) (h:a.b -a.a≤m):cm a b≤m:=by unfold cm;omega
def G0 (a:Sp) (b:Sp):Int:=
  (bif(lM b) then 0 else(bif(decide ((min a.b b.b)≤(max a.a b.a))) then 0 else(U ((min a.b b.b) -(max a.a b.a)))))
theorem YF {a b:Sp} (h:-1000000≤a.a∧a.a≤1000000∧-1000000≤a.b∧a.b≤1000000):G0 a b=cm a b:=by
  unfold G0 lM cm;by_cases h1:b.b≤b.a
  · rw [decide_eq_true h1,cond_true]
    omega
  · rw [decide_eq_false h1,cond_false]
    by_cases h2:min a.b b.b≤max a.a b.a
    · rw [decide_eq_true h2,cond_true]
      omega
    · rw [decide_eq_false h2,cond_false,b_ (by omega) (by omega)]
      omega
theorem AH (n:Int):BG n=n%18446744073709551616:=by
  unfold BG;rw [ajg]
theorem Nt {a b:Sp} (h:-1000000≤a.a∧a.a≤1000000∧-1000000≤a.b∧a.b≤1000000):fH (lT a b)=cm a b:=by
  unfold lT cm;by_cases h2:min a.b b.b≤max a.a b.a
  · rw [decide_eq_true h2,cond_true,show fH (⟨0,0⟩:Sp)=0 from rfl]
    omega
  · rw [decide_eq_false h2,cond_false]
    unfold fH Cq zf;dsimp only;rw [decide_eq_false (by omega),cond_false,AH,AH,AH,b_ (by omega) (by omega)];omega
def fE (n:Int):Sp:=⟨10*n,10*(n+1)⟩
def c_ (X Y:Sp):List Sp→Int→Int
  |[],_=>0
  |e::es,low=>cm e X*cm (fE low) Y+c_ X Y es (low+1)
theorem Nu (X Y:Sp):∀(es:List Sp) (e:Sp) (low:Int),c_ X Y (es++[e]) low=c_ X Y es low+cm e X*cm (fE (low+es.length)) Y
  |[],e,low=>by simp [c_]
  |f::es,e,low=>by
    show cm f X*cm (fE low) Y+c_ X Y (es++[e]) (low+1)=cm f X*cm (fE low) Y+c_ X Y es (low+1)+_
    rw [Nu X Y es e (low+1),List.length_cons,show low+1+((es.length:Nat):Int)=low+((es.length+1:Nat):Int) by omega]
    omega
theorem qJ (X Y:Sp):∀(es:List Sp) (low:Int),0≤c_ X Y es low
  |[],low=>by simp [c_]
  |f::es,low=>by
    have h1:=Int.mul_nonneg (k7 f X) (k7 (fE low) Y);have h2:=qJ X Y es (low+1);show 0≤cm f X*cm (fE low) Y+c_ X Y es (low+1)
    omega
theorem DB (X Y:Sp):∀(es:List Sp) (low:Int),(∀e∈es,-600≤e.a∧e.a≤600∧-600≤e.b∧e.b≤600)→c_ X Y es low≤12000*es.length
  |[],low,_=>by simp [c_]
  |f::es,low,h=>by
    have hf:=h f (List.mem_cons_self ..);have h1:cm f X≤1200:=uX (by omega) (by omega);have h3:cm (fE low) Y≤10:=uX (by omega) (by show 10*(low+1) -10*low≤10;omega)
    have h4:=Int.mul_le_mul h1 h3 (k7 _ _) (by omega);have h2:=DB X Y es (low+1) fun e he=>h e (List.mem_cons_of_mem _ he)
    show cm f X*cm (fE low) Y+c_ X Y es (low+1)≤_
    rw [List.length_cons];omega
theorem YG {X Y:Sp} (hX:X.a≤X.b):∀(es:List Sp) (low:Int),c_ X Y es low≤(X.b -X.a)*cm ⟨10*low,10*(low+es.length)⟩ Y
  |[],low=>Int.mul_nonneg (by omega) (k7 _ _)
  |f::es,low=>by
    have h2:=YG hX es (low+1) (Y:=Y);have h1:cm f X*cm (fE low) Y≤(X.b -X.a)*cm (fE low) Y:=Int.mul_le_mul_of_nonneg_right (YE hX) (k7 _ _)
    have h3:cm ⟨10*low,10*(low+((es.length+1:Nat):Int))⟩ Y=cm (fE low) Y+cm ⟨10*(low+1),10*(low+1+es.length)⟩ Y:=by
      unfold cm fE;dsimp only;omega
    show cm f X*cm (fE low) Y+c_ X Y es (low+1)≤_
    rw [List.length_cons,h3,Int.mul_add];omega
def Nv (vr:Int):Sp:=
  (⟨U (10*vr),U (10*(U (vr+1)))⟩:Sp)
def G1 (vr:aH) (vv:cb) (n1:Int) (i:Int):Option ((Int×Int)⊕Int):=
  (bif(decide (i<((vv.Rows.length:Nat):Int))) then(β (aK vv.Rows i) (fun e=>(cH (Nv (U (vv.bY+i))) (fun hv=>some (κ ((U (n1+(U ((G0 e vr.X)*(G0 hv vr.Y))))),U (i+1))))))) else some (ι n1))
def Nw (s:cb) (vr:aH):Option Int:=
  (β (B2 s) (fun vv=>(β ((bR (fun q=>G1 vr vv q.1 q.2) (0,0)):Option Int) (fun n=>some n))))
theorem apC {s:cb} (h:oU s) (hc:oC s=some 0) (vr:aH):Nw s vr=some (c_ vr.X vr.Y s.Rows s.bY):=by
  have hl:=h.len;have hw:=h.low;unfold Nw B2;rw [hc,aT,show((0:Int)!=0)=false from rfl,cond_false,aT]
  have:=kZ (step:=fun q:Int×Int=>G1 vr s q.1 q.2) (fun j=>(c_ vr.X vr.Y (s.Rows.take j) s.bY,(j:Int))) s.Rows.length (y:=c_ vr.X vr.Y s.Rows s.bY) (fun j hj=>?_) (by
    unfold G1;dsimp only;rw [eU,List.take_length];rfl)
  · rw [show(c_ vr.X vr.Y (s.Rows.take 0) s.bY,((0:Nat):Int))=((0:Int),(0:Int)) from rfl] at this
    rw [this];rfl
  · have hr:=h.tB _ (List.getElem_mem hj)
    have hp:=DB vr.X vr.Y (s.Rows.take j) s.bY fun e he=>h.tB e (List.mem_of_mem_take he)
    have hq:=qJ vr.X vr.Y (s.Rows.take j) s.bY;rw [List.length_take] at hp;unfold G1;dsimp only;rw [eb hj,cond_true,dw hj,aT,jt,b_ (n:=s.bY+_) (by omega) (by omega)]
    have eh:Nv (s.bY+j)=fE (s.bY+j):=by
      unfold Nv fE;rw [b_ (n:=s.bY+j+1) (by omega) (by omega),b_ (by omega) (by omega),b_ (by omega) (by omega)]
    rw [eh,YF (by omega),YF (by unfold fE;dsimp only;omega)];have h1:cm s.Rows[j] vr.X≤1200:=uX (by omega) (by omega);have h3:cm (fE (s.bY+j)) vr.Y≤10:=uX (by omega) (by unfold fE;dsimp only;omega);have h4:=Int.mul_le_mul h1 h3 (k7 _ _) (by omega);have h5:=Int.mul_nonneg (k7 s.Rows[j] vr.X) (k7 (fE (s.bY+j)) vr.Y);rw [b_ (n:=cm _ _*_) (by omega) (by omega),b_ (n:=c_ _ _ _ _+_) (by omega) (by omega),cC (by omega),List.take_succ_eq_append_getElem hj,Nu,List.length_take,show min j s.Rows.length=j by omega]
theorem YH {s:cb} (h:oU s) (hc:oC s=some 0) (vr:aH):uG s vr=some (c_ vr.X vr.Y s.Rows s.bY):=by
  have hl:=h.len;have hw:=h.low;unfold uG pE;rw [GY,hc,aT,show((0:Int)!=0)=false from rfl,cond_false,aT]
  have:=kZ (step:=fun q:Int×Int=>sX vr s q.1 q.2) (fun j=>(c_ vr.X vr.Y (s.Rows.take j) s.bY,(j:Int))) s.Rows.length (y:=c_ vr.X vr.Y s.Rows s.bY) (fun j hj=>?_) (by
    unfold sX;dsimp only;rw [eU,List.take_length];rfl)
  · rw [show(c_ vr.X vr.Y (s.Rows.take 0) s.bY,((0:Nat):Int))=((0:Int),(0:Int)) from rfl] at this
    rw [this];rfl
  · have hr:=h.tB _ (List.getElem_mem hj)
    have hp:=DB vr.X vr.Y (s.Rows.take j) s.bY fun e he=>h.tB e (List.mem_of_mem_take he)
    have hq:=qJ vr.X vr.Y (s.Rows.take j) s.bY;rw [List.length_take] at hp;unfold sX;dsimp only;rw [eb hj,cond_true,dw hj,aT,jt,jt,jt,b_ (n:=s.bY+_) (by omega) (by omega)]
    have eh:w_ (s.bY+j) (U (s.bY+j+1))=fE (s.bY+j):=by
      unfold w_ fE;rw [b_ (n:=s.bY+j+1) (by omega) (by omega),b_ (by omega) (by omega),b_ (by omega) (by omega)]
    rw [eh,Nt (by omega),Nt (by unfold fE;dsimp only;omega)];have h1:cm s.Rows[j] vr.X≤1200:=uX (by omega) (by omega);have h3:cm (fE (s.bY+j)) vr.Y≤10:=uX (by omega) (by unfold fE;dsimp only;omega);have h4:=Int.mul_le_mul h1 h3 (k7 _ _) (by omega);have h5:=Int.mul_nonneg (k7 s.Rows[j] vr.X) (k7 (fE (s.bY+j)) vr.Y);rw [b_ (n:=cm _ _*_) (by omega) (by omega),b_ (n:=c_ _ _ _ _+_) (by omega) (by omega),cC (by omega),List.take_succ_eq_append_getElem hj,Nu,List.length_take,show min j s.Rows.length=j by omega]
def eI (s:Sp):Bool:=
  (bif(decide ((-600)≤s.a)) then(bif(decide (s.a<s.b)) then(decide (s.b≤600)) else false) else false)
theorem YI (vr:aH):uF vr=some (eI vr.X&&eI vr.Y):=by
  unfold uF
  have hs:∀(e:Sp) (x:Option (Int⊕(Bool⊕Unit))),(bif(decide (e.a<(-600))) then some (ι (κ false)) else(bif(decide (600<e.b)) then some (ι (κ false)) else(bif(decide (e.b≤e.a)) then some (ι (κ false)) else x)))=bif eI e then x else some (ι (κ false)):=by
    intro e x;unfold eI;rw [Yx e.a (-600),Yx 600 e.b,apq e.b e.a];cases decide (-600≤e.a)<;>cases decide (e.b≤600)<;>cases decide (e.a<e.b)<;>rfl
  have h0:uE vr 0=bif eI vr.X then some (.inl 1) else some (.inr (.inl false)):=hs vr.X _
  have h1:uE vr 1=bif eI vr.Y then some (.inl 2) else some (.inr (.inl false)):=hs vr.Y _
  cases hX:eI vr.X with
  |false=>
    rw [hX] at h0;rw [gQ h0];rfl
  |true=>
    rw [hX] at h0;rw [nm h0];cases hY:eI vr.Y with
    |false=>
      rw [hY] at h1;rw [gQ h1];rfl
    |true=>
      rw [hY] at h1;rw [nm h1,gQ (y:=.inr ()) rfl];rfl
theorem pM {s:Sp} (h:eI s=true):-600≤s.a∧s.a<s.b∧s.b≤600:=by
  unfold eI at h;by_cases h1:-600≤s.a
  · rw [decide_eq_true h1,cond_true] at h
    by_cases h2:s.a<s.b
    · rw [decide_eq_true h2,cond_true,decide_eq_true_eq] at h
      exact⟨h1,h2,h⟩
    · rw [decide_eq_false h2] at h
      exact absurd h (by simp)
  · rw [decide_eq_false h1] at h
    exact absurd h (by simp)
theorem apD {l:List aG} (h:kI l):bR (fun q:Int×Int=>uA l q.1 q.2) (0,0)=some (bJ l):=by
  have hl:=h.len
  have hb:∀j,j≤l.length→0≤bJ (l.take j)∧bJ (l.take j)≤bJ l:=by
    have wj:∀(m:List aG),(∀e∈m,e∈l)→0≤bJ m:=by
      intro m
      induction m with
      |nil=>intro _;simp [bJ]
      |cons a m ih=>
        intro hm;have h1:=(h.sec a (hm a (List.mem_cons_self ..))).2.1;have h2:=ih fun e he=>hm e (List.mem_cons_of_mem _ he)
        unfold bJ at h2⊢;rw [List.map_cons,List.sum_cons];omega
    intro j hj;have h1:=wj (l.take j) fun e he=>List.mem_of_mem_take he
    have h2:=wj (l.drop j) fun e he=>List.mem_of_mem_drop he
    have h3:bJ l=bJ (l.take j)+bJ (l.drop j):=by
      unfold bJ;rw [←List.sum_append,←List.map_append,List.take_append_drop]
    omega
  have uY:=h.ml
  have:=kZ (step:=fun q:Int×Int=>uA l q.1 q.2) (fun j=>(bJ (l.take j),(j:Int))) l.length (y:=bJ l) (fun j hj=>by
    have h1:=hb j (by omega);have h2:=hb (j+1) (by omega);have h3:=tC hj;unfold uA;dsimp only;rw [eb hj,cond_true,dw hj,aT,b_ (by omega) (by omega),cC (by omega),h3]) (by
    unfold uA;dsimp only;rw [eU,List.take_length];rfl)
  exact this
theorem length_eq {l:List aG} (h:kI l) (hc:jj l=some 0):rm l=some (bJ l):=by
  unfold rm;rw [hc,aT,show((0:Int)!=0)=false from rfl,cond_false,apD h]
  rfl
def dV (X Y:Sp):Int:=(X.b -X.a)*(Y.b -Y.a)
def lk (X Y:Sp) (s:cb):Int:=Int.tdiv (1000*(dV X Y -c_ X Y s.Rows s.bY)+dV X Y -1) (dV X Y)
structure nK (X Y:Sp):Prop where
  x:-600≤X.a∧X.a<X.b∧X.b≤600
  y:-600≤Y.a∧Y.a<Y.b∧Y.b≤600
theorem tD {X Y:Sp} (h:nK X Y):1≤dV X Y∧dV X Y≤1440000:=by
  have hx:=h.x;have hy:=h.y;unfold dV;have h1:=Int.mul_le_mul (a:=X.b -X.a) (c:=1200) (b:=Y.b -Y.a) (d:=1200) (by omega) (by omega) (by omega) (by omega);have h2:=Int.mul_le_mul (a:=1) (c:=X.b -X.a) (b:=1) (d:=Y.b -Y.a) (by omega) (by omega) (by omega) (by omega);omega
theorem G2 {X Y:Sp} (h:nK X Y) (s:cb):0≤c_ X Y s.Rows s.bY∧c_ X Y s.Rows s.bY≤dV X Y:=by
  have hx:=h.x;have hy:=h.y;have h1:=YG (X:=X) (Y:=Y) (by omega) s.Rows s.bY;have h2:cm ⟨10*s.bY,10*(s.bY+s.Rows.length)⟩ Y≤Y.b -Y.a:=YE (by omega);have h3:=Int.mul_le_mul_of_nonneg_left h2 (show 0≤X.b -X.a by omega)
  refine⟨qJ ..,?_⟩;unfold dV;omega
theorem Nx {X Y:Sp} (h:nK X Y) (s:cb):0≤lk X Y s∧lk X Y s≤1000:=by
  have h1:=tD h;have h2:=G2 h s;unfold lk;generalize dV X Y=A at*
  generalize c_ X Y s.Rows s.bY=w at*
  rw [Int.tdiv_eq_ediv_of_nonneg (by omega)];constructor
  · exact Int.ediv_nonneg (by omega) (by omega)
  · have:(1000*(A -w)+A -1)/A<1001:=Int.ediv_lt_of_lt_mul (by omega) (by omega)
    omega
theorem YJ {X Y:Sp} (h:nK X Y) (s:cb):U (Int.tdiv (U ((U ((U (1000*(U ((U ((U (X.b -X.a))*(U (Y.b -Y.a)))) -(c_ X Y s.Rows s.bY)))))+(U ((U (X.b -X.a))*(U (Y.b -Y.a)))))) -1)) (U ((U (X.b -X.a))*(U (Y.b -Y.a)))))=lk X Y s:=by
  have hx:=h.x;have hy:=h.y;have h1:=tD h;have h2:=G2 h s;have h3:=Nx h s;rw [b_ (n:=X.b -X.a) (by omega) (by omega),b_ (n:=Y.b -Y.a) (by omega) (by omega)];rw [show(X.b -X.a)*(Y.b -Y.a)=dV X Y from rfl]
  rw [b_ (n:=dV X Y) (by omega) (by omega),b_ (n:=dV X Y -_) (by omega) (by omega),b_ (n:=1000*_) (by omega) (by omega),b_ (n:=_+dV X Y) (by omega) (by omega),b_ (n:=_ -1) (by omega) (by omega)];exact b_ (by unfold lk at h3;omega) (by unfold lk at h3;omega)
def wn (X Y z:Sp):List aG→Int→Int→Int
  |[],_,m=>m
  |e::es,a,m=>wn X Y z es (a+e.aX) (if a<z.b∧z.a<a+e.aX then max m (lk X Y e.bL) else m)
theorem YK {X Y z:Sp} (h:nK X Y):∀(l:List aG) (a m:Int),0≤m∧m≤1000→0≤wn X Y z l a m∧wn X Y z l a m≤1000
  |[],_,m,hm=>hm
  |e::es,a,m,hm=>by
    have h1:=Nx h e.bL;exact YK h es _ _ (by split<;>omega)
def lV (X Y:Sp):List aG→Int→List gB
  |[],_=>[]
  |e::es,a=>⟨⟨a,a+e.aX⟩,lk X Y e.bL⟩::lV X Y es (a+e.aX)
theorem xB (e:aG) (l:List aG):bJ (e::l)=e.aX+bJ l:=by simp [bJ]
theorem YL (X Y:Sp):∀(l:List aG) (e:aG) (a:Int),lV X Y (l++[e]) a=lV X Y l a++[⟨⟨a+bJ l,a+bJ l+e.aX⟩,lk X Y e.bL⟩]
  |[],e,a=>by simp [lV,bJ]
  |f::l,e,a=>by
    show _::lV X Y (l++[e]) (a+f.aX)=_::_
    rw [YL X Y l e (a+f.aX),xB,show a+f.aX+bJ l=a+(f.aX+bJ l) by omega]
    rfl
theorem DC (X Y:Sp):∀(l:List aG) (a:Int),(lV X Y l a).length=l.length
  |[],a=>rfl
  |f::l,a=>by
    show(lV X Y l (a+f.aX)).length+1=l.length+1
    rw [DC X Y l]
def wz (z:Sp) (m:Int) (e:gB):Int:=if e.z_.a<z.b∧z.a<e.z_.b then max m e.yM else m
theorem Ny (X Y z:Sp):∀(l:List aG) (a m:Int),(lV X Y l a).foldl (wz z) m=wn X Y z l a m
  |[],a,m=>rfl
  |f::l,a,m=>Ny X Y z l (a+f.aX) _
theorem pN {l:List aG} (h:kI l):∀j,j≤l.length→0≤bJ (l.take j)∧bJ (l.take j)≤bJ l:=by
  have wj:∀(m:List aG),(∀e∈m,e∈l)→0≤bJ m:=by
    intro m
    induction m with
    |nil=>intro _;simp [bJ]
    |cons a m ih=>
      intro hm;have h1:=(h.sec a (hm a (List.mem_cons_self ..))).2.1;have h2:=ih fun e he=>hm e (List.mem_cons_of_mem _ he)
      rw [xB];omega
  intro j hj;have h1:=wj (l.take j) fun e he=>List.mem_of_mem_take he
  have h2:=wj (l.drop j) fun e he=>List.mem_of_mem_drop he
  have h3:bJ l=bJ (l.take j)+bJ (l.drop j):=by
    unfold bJ;rw [←List.sum_append,←List.map_append,List.take_append_drop]
  omega
theorem YM {l:List aG} (h:kI l) {vr:aH} (hr:nK vr.X vr.Y):sZ l vr=some (lV vr.X vr.Y l 0):=by
  have hl:=h.len;have uY:=h.ml;have hx:=hr.x;have hy:=hr.y;have ha:=tD hr;unfold sZ
  have:=kZ (step:=fun q:List gB×Int×Int=>sY l vr q.1 q.2.1 q.2.2) (fun j=>(lV vr.X vr.Y (l.take j) 0,bJ (l.take j),(j:Int))) l.length (y:=lV vr.X vr.Y l 0) (fun j hj=>by
    have h1:=pN h j (by omega);have h2:=pN h (j+1) (by omega);have h3:=tC hj;have hs:=h.sec _ (List.getElem_mem hj);unfold sY;dsimp only;rw [eb hj,cond_true,dw hj,aT,YH hs.1 hs.2.2,aT,YJ hr];rw [b_ (n:=vr.X.b -vr.X.a) (by omega) (by omega),b_ (n:=vr.Y.b -vr.Y.a) (by omega) (by omega),show(vr.X.b -vr.X.a)*(vr.Y.b -vr.Y.a)=dV vr.X vr.Y from rfl,b_ (n:=dV _ _) (by omega) (by omega),kc (by omega),cond_true]
    rw [np (by rw [DC,List.length_take];simp;omega) (by rw [DC,List.length_take];simp;omega),aT,b_ (by omega) (by omega),cC (by omega),h3,List.take_succ_eq_append_getElem hj,YL,Int.zero_add]) (by
    unfold sY;dsimp only;rw [eU,List.take_length];rfl)
  rw [show(lV vr.X vr.Y (l.take 0) 0,bJ (l.take 0),((0:Nat):Int))=(([]:List gB),(0:Int),(0:Int)) from rfl] at this
  rw [this];rfl
theorem YN {l:List gB} (hl:l.length≤1000) (z:Sp):uJ l z=some (l.foldl (wz z) 0):=by
  unfold uJ
  have:=GU (step:=fun q:Int×Int=>ta l z q.1 q.2) l (wz z) 0 (fun m j=>(m,(j:Int))) (fun m=>m) (fun m j hj=>by
    unfold ta wz;dsimp only;rw [eb hj,cond_true,dw hj,aT,cC (by omega)];by_cases h1:l[j].z_.a<z.b
    · rw [decide_eq_true h1,cond_true]
      by_cases h2:z.a<l[j].z_.b
      · rw [decide_eq_true h2,cond_true,if_pos ⟨h1,h2⟩]
      · rw [decide_eq_false h2,cond_false,if_neg (by omega)]
    · rw [decide_eq_false h1,cond_false,if_neg (by omega)]) (fun m=>by
    unfold ta;dsimp only;rw [eU];rfl)
  rw [show(((0:Int)),((0:Nat):Int))=((0:Int),(0:Int)) from rfl] at this
  rw [this];rfl
def DD (vz:Sp) (cI:Int) (length:Int):Int:=
  (bif(decide ((min vz.b (U (cI+length)))≤(max vz.a cI))) then 0 else(U ((min vz.b (U (cI+length))) -(max vz.a cI))))
def prt (z:Sp) (a n:Int):Int:=DD ⟨max z.a 0,min z.b 20000⟩ a n
def kJ (z:Sp):List aG→Int→List aG
  |[],_=>[]
  |e::es,a=>(if a<z.b∧z.a<a+e.aX then [⟨prt z a e.aX,e.bL⟩] else [])++kJ z es (a+e.aX)
theorem YO (z:Sp):∀(l:List aG) (e:aG) (a:Int),kJ z (l++[e]) a=kJ z l a++(if a+bJ l<z.b∧z.a<a+bJ l+e.aX then [⟨prt z (a+bJ l) e.aX,e.bL⟩] else [])
  |[],e,a=>by simp [kJ,bJ]
  |f::l,e,a=>by
    show _++kJ z (l++[e]) (a+f.aX)=_++kJ z l (a+f.aX)++_
    rw [YO z l e (a+f.aX),xB,show a+f.aX+bJ l=a+(f.aX+bJ l) by omega,List.append_assoc]
theorem Nz (z:Sp):∀(l:List aG) (a:Int),(kJ z l a).length≤l.length
  |[],a=>by simp [kJ]
  |f::l,a=>by
    have:=Nz z l (a+f.aX);show(_++kJ z l (a+f.aX)).length≤l.length+1
    rw [List.length_append];split<;>simp<;>omega
theorem YP {z:Sp} {c:aG}:∀{l:List aG} {a:Int},c∈kJ z l a→∃e∈l,c.bL=e.bL
  |[],a,h=>by simp [kJ] at h
  |f::l,a,h=>by
    have h:c∈(if a<z.b∧z.a<a+f.aX then [⟨prt z a f.aX,f.bL⟩] else [])++kJ z l (a+f.aX):=h
    rcases List.mem_append.1 h with h|h
    · split at h
      · rw [List.mem_singleton] at h
        exact⟨f,List.mem_cons_self ..,by rw [h]⟩
      · simp at h
    · obtain⟨e,he,h⟩:=YP h
      exact⟨e,List.mem_cons_of_mem _ he,h⟩
theorem YQ (X Y z:Sp):∀(l:List aG) (a m:Int),(kJ z l a).foldl (fun m e=>max m (lk X Y e.bL)) m=wn X Y z l a m
  |[],a,m=>rfl
  |f::l,a,m=>by
    show((if a<z.b∧z.a<a+f.aX then [(⟨prt z a f.aX,f.bL⟩:aG)] else [])++kJ z l (a+f.aX)).foldl _ m=wn X Y z l (a+f.aX) (if a<z.b∧z.a<a+f.aX then max m (lk X Y f.bL) else m)
    rw [List.foldl_append,YQ X Y z l];split<;>rfl
def G3 (l:List aG) (vz:Sp) (NA:List aG) (cI:Int) (i:Int):Option (((List aG)×Int×Int)⊕(List aG)):=
  (bif(decide (i<((l.length:Nat):Int))) then(β (aK l i) (fun e=>(bif(decide (0<(DD (⟨max vz.a 0,min vz.b 20000⟩:Sp) cI e.aX))) then(β (aK l i) (fun e1=>(β (dF 40 NA ([(⟨DD (⟨max vz.a 0,min vz.b 20000⟩:Sp) cI e.aX,e1.bL⟩:aG)])) (fun l1=>(β (aK l i) (fun e2=>some (κ (l1,U (cI+e2.aX),U (i+1))))))))) else(β (aK l i) (fun e3=>some (κ (NA,U (cI+e3.aX),U (i+1)))))))) else some (ι NA))
def NB (l:List aG) (vz:Sp):Option (List aG):=
  (β (jj l) (fun cv=>(bif(cv !=0) then some ([]) else(β ((bR (fun q=>G3 l vz q.1 q.2.1 q.2.2) ([],0,0)):Option (List aG)) (fun out=>some out)))))
theorem apE {l:List aG} (h:kI l) (hc:jj l=some 0) {z:Sp} (hz:0≤z.a∧z.a<z.b∧z.b≤bJ l):NB l z=some (kJ z l 0):=by
  have hl:=h.len;have uY:=h.ml;unfold NB;rw [hc,aT,show((0:Int)!=0)=false from rfl,cond_false]
  have:=kZ (step:=fun q:List aG×Int×Int=>G3 l z q.1 q.2.1 q.2.2) (fun j=>(kJ z (l.take j) 0,bJ (l.take j),(j:Int))) l.length (y:=kJ z l 0) (fun j hj=>by
    have h1:=pN h j (by omega);have h2:=pN h (j+1) (by omega);have h3:=tC hj;have hs:=h.sec _ (List.getElem_mem hj);have hlen:=Nz z (l.take j) 0;rw [List.length_take] at hlen;unfold G3;dsimp only;rw [eb hj,cond_true,dw hj];simp only [aT];rw [b_ (n:=bJ _+_) (by omega) (by omega),cC (by omega)]
    have hp:(0<DD (⟨max z.a 0,min z.b 20000⟩:Sp) (bJ (l.take j)) l[j].aX)↔(bJ (l.take j)<z.b∧z.a<bJ (l.take j)+l[j].aX):=by
      unfold DD;dsimp only;rw [b_ (n:=bJ _+_) (by omega) (by omega)];by_cases h4:min (min z.b 20000) (bJ (l.take j)+l[j].aX)≤max (max z.a 0) (bJ (l.take j))
      · rw [decide_eq_true h4,cond_true]
        omega
      · rw [decide_eq_false h4,cond_false,b_ (by omega) (by omega)]
        omega
    rw [h3,List.take_succ_eq_append_getElem hj,YO,Int.zero_add];by_cases h5:bJ (l.take j)<z.b∧z.a<bJ (l.take j)+l[j].aX
    · rw [decide_eq_true (hp.2 h5),cond_true,np (by simp;omega) (by simp;omega),aT,if_pos h5]
      rfl
    · rw [decide_eq_false fun h=>h5 (hp.1 h),cond_false,if_neg h5,List.append_nil]) (by
    unfold G3;dsimp only;rw [eU,List.take_length];rfl)
  rw [show(kJ z (l.take 0) 0,bJ (l.take 0),((0:Nat):Int))=(([]:List aG),(0:Int),(0:Int)) from rfl] at this
  rw [this];rfl
def G4 (b:Bx) (cv:List aG) (f_:Int) (i:Int):Option ((Int×Int)⊕Int):=
  (bif(decide (i<((cv.length:Nat):Int))) then(β (aK cv i) (fun e=>(β (Nw e.bL (⟨b.x,b.y⟩:aH)) (fun wv=>(bif((U ((U (b.x.b -b.x.a))*(U (b.y.b -b.y.a))))!=0) then some (κ ((max f_ (U (Int.tdiv (U ((U ((U (1000*(U ((U ((U (b.x.b -b.x.a))*(U (b.y.b -b.y.a)))) -wv))))+(U ((U (b.x.b -b.x.a))*(U (b.y.b -b.y.a)))))) -1)) (U ((U (b.x.b -b.x.a))*(U (b.y.b -b.y.a))))))),U (i+1))) else none))))) else some (ι f_))
def NC (l:List aG) (b:Bx):Option Int:=
  (β (NB l b.z) (fun cv=>(β ((bR (fun q=>G4 b cv q.1 q.2) (0,0)):Option Int) (fun eM=>some eM))))
theorem apF {l:List aG} (h:kI l) (hc:jj l=some 0) {b:Bx} (hr:nK b.x b.y) (hz:0≤b.z.a∧b.z.a<b.z.b∧b.z.b≤bJ l):NC l b=some (wn b.x b.y b.z l 0 0):=by
  have hl:=h.len;have hx:=hr.x;have hy:=hr.y;have ha:=tD hr;have hlen:=Nz b.z l 0;unfold NC;rw [apE h hc hz,aT]
  have:=GU (step:=fun q:Int×Int=>G4 b (kJ b.z l 0) q.1 q.2) (kJ b.z l 0) (fun m e=>max m (lk b.x b.y e.bL)) 0 (fun m j=>(m,(j:Int))) (fun m=>m) (fun m j hj=>by
    obtain⟨e,he,hes⟩:=YP (List.getElem_mem hj);have hs:=h.sec e he;rw [←hes] at hs;unfold G4;dsimp only;rw [eb hj,cond_true,dw hj,aT,apC hs.1 hs.2.2,aT,YJ hr];rw [b_ (n:=b.x.b -b.x.a) (by omega) (by omega),b_ (n:=b.y.b -b.y.a) (by omega) (by omega),show(b.x.b -b.x.a)*(b.y.b -b.y.a)=dV b.x b.y from rfl,b_ (n:=dV _ _) (by omega) (by omega),kc (by omega),cond_true,cC (by omega)]) (fun m=>by
    unfold G4;dsimp only;rw [eU];rfl)
  rw [show(((0:Int)),((0:Nat):Int))=((0:Int),(0:Int)) from rfl] at this
  rw [this,YQ];rfl
def mn (z:Sp) (n:Int):Bool:=decide (0≤z.a)&&(decide (z.a<z.b)&&decide (z.b≤n))
theorem YR (z:Sp) (n:Int):s8 z n=mn z n:=by
  unfold s8 mn;cases decide (0≤z.a)<;>cases decide (z.a<z.b)<;>rfl
def ND (l:List aG) (b:Bx):Option Bool:=
  (bif(eI b.x) then(bif(eI b.y) then(bif(decide (0≤b.z.a)) then(bif(decide (b.z.a<b.z.b)) then(β (rm l) (fun lv=>some (decide (b.z.b≤lv)))) else some false) else some false) else some false) else some false)
theorem apH {l:List aG} {b:Bx} {n:Int} (h:rm l=some n):ND l b=some (eI b.x&&eI b.y&&mn b.z n):=by
  unfold ND mn;rw [h];cases eI b.x<;>cases eI b.y<;>cases decide (0≤b.z.a)<;>cases decide (b.z.a<b.z.b)<;>rfl
theorem DE {z:Sp} {n:Int} (h:mn z n=true):0≤z.a∧z.a<z.b∧z.b≤n:=by
  unfold mn at h;simp only [Bool.and_eq_true,decide_eq_true_eq] at h;exact h
abbrev lW (l:List aG):Prop:=∀e∈l,cM e.bL.bY∧cM e.aX
def exts:List aG→Int→List Sp
  |[],_=>[]
  |e::es,a=>⟨a,a+e.aX⟩::exts es (a+e.aX)
theorem G5:∀(l:List aG) (a:Int),(exts l a).length=l.length
  |[],_=>rfl
  |e::es,a=>by
    show(exts es (a+e.aX)).length+1=es.length+1
    rw [G5 es]
theorem YS:∀(l:List aG) (e:aG) (a:Int),exts (l++[e]) a=exts l a++[⟨a+bJ l,a+bJ l+e.aX⟩]
  |[],e,a=>by simp [exts,bJ]
  |f::l,e,a=>by
    show _::exts (l++[e]) (a+f.aX)=_::(exts l (a+f.aX)++_)
    rw [YS l e,xB,show a+f.aX+bJ l=a+(f.aX+bJ l) by omega]
theorem YT:∀(l:List aG) (a:Int) (j:Nat) (hj:j<l.length),(exts l a)[j]?=some ⟨a+bJ (l.take j),a+bJ (l.take j)+l[j].aX⟩
  |[],a,j,hj=>by simp at hj
  |f::l,a,0,hj=>by simp [exts,bJ]
  |f::l,a,j+1,hj=>by
    show(exts l (a+f.aX))[j]?=_
    have G6:j<l.length:=by simpa using hj
    rw [YT l _ j G6,List.take_succ_cons,xB,List.getElem_cons_succ,show a+f.aX+bJ (l.take j)=a+(f.aX+bJ (l.take j)) by omega]
theorem apI {α:Type} (A:List α) (n:Nat) (z v:α):(A++List.replicate (n+1) z).set A.length v=A++[v]++List.replicate n z:=by
  rw [List.set_append_right _ _ (Nat.le_refl _)];simp [List.replicate_succ]
theorem YU {l:List aG} (h:kI l):uL l=some (exts l 0):=by
  have hl:=h.len;have uY:=h.ml;unfold uL
  have hm:lh 16 (⟨0,0⟩:Sp) ((l.length:Nat):Int)=some (List.replicate l.length ⟨0,0⟩):=by
    unfold lh;rw [decide_eq_true (by omega),decide_eq_true (by omega),decide_eq_true (by omega)];rfl
  rw [hm,aT]
  have:=kZ (step:=fun q:Int×Int×List Sp=>tg l q.1 q.2.1 q.2.2) (fun j=>(bJ (l.take j),(j:Int),exts (l.take j) 0++List.replicate (l.length -j) ⟨0,0⟩)) l.length (y:=exts l 0) (fun j hj=>by
    have h1:=pN h j (by omega);have h2:=pN h (j+1) (by omega);have h3:=tC hj;have hlen:(exts (l.take j) 0).length=j:=by rw [G5,List.length_take];omega
    unfold tg;dsimp only
    have hg:aK (exts (l.take j) 0++List.replicate (l.length -j) (⟨0,0⟩:Sp)) (j:Int)=some ⟨0,0⟩:=by
      rw [PE,List.getElem?_append_right (by omega),hlen,Nat.sub_self,List.getElem?_replicate];simp;omega
    rw [eb hj,cond_true,dw hj,aT,hg,aT,b_ (by omega) (by omega),cC (by omega),h3]
    have G7:bp (exts (l.take j) 0++List.replicate (l.length -j) (⟨0,0⟩:Sp)) (j:Int) (⟨bJ (l.take j),bJ (l.take j)+l[j].aX⟩:Sp)=exts (l.take (j+1)) 0++List.replicate (l.length -(j+1)) (⟨0,0⟩:Sp):=by
      rw [List.take_succ_eq_append_getElem hj,YS,Int.zero_add];have:=apI (exts (l.take j) 0) (l.length -(j+1)) (⟨0,0⟩:Sp) ⟨bJ (l.take j),bJ (l.take j)+l[j].aX⟩;rw [hlen,show l.length -(j+1)+1=l.length -j by omega] at this
      exact this
    rw [G7]) (by
    unfold tg;dsimp only;rw [eU,List.take_length,Nat.sub_self];simp)
  rw [show(bJ (l.take 0),((0:Nat):Int),exts (l.take 0) 0++List.replicate (l.length -0) (⟨0,0⟩:Sp))=((0:Int),(0:Int),List.replicate l.length (⟨0,0⟩:Sp)) from rfl] at this
  rw [this];rfl
def dS (X Y z:Sp):List aG→Int→Int
  |[],_=>0
  |e::es,a=>cm ⟨a,a+e.aX⟩ z*c_ X Y e.bL.Rows e.bL.bY+dS X Y z es (a+e.aX)
def lc (X Y z:Sp):List aG→Int→Int
  |[],_=>0
  |e::es,a=>cm ⟨a,a+e.aX⟩ z*(dV X Y -c_ X Y e.bL.Rows e.bL.bY)+lc X Y z es (a+e.aX)
def lz (z:Sp):List aG→Int→Int
  |[],_=>0
  |e::es,a=>cm ⟨a,a+e.aX⟩ z+lz z es (a+e.aX)
theorem YV (X Y z:Sp):∀(l:List aG) (e:aG) (a:Int),dS X Y z (l++[e]) a=dS X Y z l a+cm ⟨a+bJ l,a+bJ l+e.aX⟩ z*c_ X Y e.bL.Rows e.bL.bY
  |[],e,a=>by simp [dS,bJ]
  |f::l,e,a=>by
    show _+dS X Y z (l++[e]) (a+f.aX)=_+dS X Y z l (a+f.aX)+_
    rw [YV X Y z l e,xB,show a+f.aX+bJ l=a+(f.aX+bJ l) by omega]
    omega
theorem NF (X Y z:Sp):∀(l:List aG) (a:Int),dS X Y z l a+lc X Y z l a=dV X Y*lz z l a
  |[],a=>by simp [dS,lc,lz]
  |f::l,a=>by
    have ih:=NF X Y z l (a+f.aX);show cm ⟨a,a+f.aX⟩ z*c_ X Y f.bL.Rows f.bL.bY+dS X Y z l (a+f.aX)+(cm ⟨a,a+f.aX⟩ z*(dV X Y -c_ X Y f.bL.Rows f.bL.bY)+lc X Y z l (a+f.aX))=dV X Y*(cm ⟨a,a+f.aX⟩ z+lz z l (a+f.aX))
    rw [Int.mul_sub,Int.mul_add,Int.mul_comm (dV X Y) (cm _ _)];omega
theorem NG {z:Sp} (hz:z.a<z.b):∀(l:List aG) (a:Int),(∀e∈l,1≤e.aX)→lz z l a=cm ⟨a,a+bJ l⟩ z∧0≤bJ l
  |[],a,_=>by
    unfold lz bJ cm;simp;omega
  |f::l,a,h=>by
    have hf:=h f (List.mem_cons_self ..);have ih:=NG hz l (a+f.aX) fun e he=>h e (List.mem_cons_of_mem _ he)
    show cm ⟨a,a+f.aX⟩ z+lz z l (a+f.aX)=_∧_
    rw [ih.1,xB];unfold cm;dsimp only;omega
theorem G8 {X Y z:Sp}:∀(l:List aG) (a:Int),(∀e∈l,oU e.bL∧1≤e.aX∧e.aX≤20000)→0≤dS X Y z l a∧dS X Y z l a≤28800000000*l.length
  |[],a,_=>by simp [dS]
  |f::l,a,h=>by
    have hf:=h f (List.mem_cons_self ..);have ih:=G8 l (a+f.aX) (fun e he=>h e (List.mem_cons_of_mem _ he)) (X:=X) (Y:=Y) (z:=z);have h1:cm ⟨a,a+f.aX⟩ z≤20000:=uX (by omega) (by show a+f.aX -a≤20000;omega)
    have h2:=DB X Y f.bL.Rows f.bL.bY hf.1.tB;have h3:=qJ X Y f.bL.Rows f.bL.bY;have hlen:=hf.1.len;have h4:=Int.mul_le_mul h1 (show c_ X Y f.bL.Rows f.bL.bY≤1440000 by omega) h3 (by omega)
    have h5:=Int.mul_nonneg (k7 ⟨a,a+f.aX⟩ z) h3;show 0≤_+dS X Y z l (a+f.aX)∧_+dS X Y z l (a+f.aX)≤_
    rw [List.length_cons];omega
theorem AI {l:List aG} (h:kI l):∀e∈l,oU e.bL∧1≤e.aX∧e.aX≤20000:=by
  intro e he;have h1:=h.sec e he;obtain⟨j,hj,rfl⟩:=List.getElem_of_mem he;have h2:=pN h j (by omega);have h3:=pN h (j+1) (by omega);have h4:=tC hj;have:=h.ml;exact⟨h1.1,h1.2.1,by omega⟩
theorem NH {l:List aG} (h:kI l) (hc:jj l=some 0) (b:Bx):nH l b=some (dS b.x b.y b.z l 0):=by
  have hl:=h.len;have uY:=h.ml;unfold nH qu;rw [uV,hc,aT,show((0:Int)!=0)=false from rfl,cond_false,aT,YU h,aT]
  have:=kZ (step:=fun q:Int×Int=>th b l (exts l 0) q.1 q.2) (fun j=>(dS b.x b.y b.z (l.take j) 0,(j:Int))) l.length (y:=dS b.x b.y b.z l 0) (fun j hj=>by
    have h1:=pN h j (by omega);have h2:=pN h (j+1) (by omega);have h3:=tC hj;have hs:=h.sec _ (List.getElem_mem hj);have hb:=G8 (X:=b.x) (Y:=b.y) (z:=b.z) (l.take j) 0 fun e he=>AI h e (List.mem_of_mem_take he)
    have ph:=G8 (X:=b.x) (Y:=b.y) (z:=b.z) (l.take (j+1)) 0 fun e he=>AI h e (List.mem_of_mem_take he)
    have h4:=YV b.x b.y b.z (l.take j) l[j] 0;rw [←List.take_succ_eq_append_getElem hj,Int.zero_add] at h4;rw [List.length_take] at hb ph;have hg:=YT l 0 j hj;rw [Int.zero_add] at hg;unfold th;dsimp only;rw [G5,eb hj,cond_true,PE,hg,aT,jt,Nt (by dsimp only;omega),dw hj,aT,YH hs.1 hs.2.2,aT,cC (by omega)];have h5:=Int.mul_nonneg (k7 ⟨bJ (l.take j),bJ (l.take j)+l[j].aX⟩ b.z) (qJ b.x b.y l[j].bL.Rows l[j].bL.bY);dsimp only;by_cases hp:0<cm ⟨bJ (l.take j),bJ (l.take j)+l[j].aX⟩ b.z
    · rw [decide_eq_true hp,cond_true,b_ (n:=cm _ _*_) (by omega) (by omega),←h4,b_ (by omega) (by omega)]
    · rw [decide_eq_false hp,cond_false]
      have h6:=k7 ⟨bJ (l.take j),bJ (l.take j)+l[j].aX⟩ b.z;have h7:cm ⟨bJ (l.take j),bJ (l.take j)+l[j].aX⟩ b.z=0:=by omega
      rw [h7,Int.zero_mul,Int.add_zero] at h4;rw [h4]) (by
    unfold th;dsimp only;rw [G5,eU,List.take_length];rfl)
  rw [show(dS b.x b.y b.z (l.take 0) 0,((0:Nat):Int))=((0:Int),(0:Int)) from rfl] at this
  rw [this];rfl
theorem apJ {X Y:Sp} (h:nK X Y) (s:cb):1000*(dV X Y -c_ X Y s.Rows s.bY)≤lk X Y s*dV X Y∧(dV X Y -c_ X Y s.Rows s.bY=0→lk X Y s=0):=by
  have h1:=tD h;have h2:=G2 h s;unfold lk;generalize dV X Y=A at*
  generalize c_ X Y s.Rows s.bY=w at*
  rw [Int.tdiv_eq_ediv_of_nonneg (by omega)];constructor
  · have:=Int.lt_ediv_add_one_mul_self (1000*(A -w)+A -1) (show 0<A by omega)
    rw [Int.add_mul] at this;omega
  · intro h0
    rw [h0];exact Int.ediv_eq_zero_of_lt (by omega) (by omega)
theorem NI {X Y z:Sp} (hr:nK X Y) (hz:z.a<z.b):∀(l:List aG) (a m:Int),0≤m→(∀e∈l,1≤e.aX)→
    m≤wn X Y z l a m∧1000*lc X Y z l a≤wn X Y z l a m*(dV X Y*lz z l a)∧0≤lc X Y z l a∧0≤lz z l a∧(wn X Y z l a m=0→lc X Y z l a=0)∧(m=0→lc X Y z l a=0→wn X Y z l a m=0)
  |[],a,m,hm,_=>by simp [wn,lc,lz]
  |f::l,a,m,hm,h=>by
    have hf:=h f (List.mem_cons_self ..);have hA:=tD hr;have hw:=G2 hr f.bL;have hl:=Nx hr f.bL;have hu:=apJ hr f.bL;have hc:=k7 ⟨a,a+f.aX⟩ z
    have YW:(a<z.b∧z.a<a+f.aX)↔0<cm ⟨a,a+f.aX⟩ z:=by
      unfold cm;dsimp only;omega
    have x4:0≤(if a<z.b∧z.a<a+f.aX then max m (lk X Y f.bL) else m):=by split<;>omega
    have ih:=NI hr hz l (a+f.aX) _ x4 fun e he=>h e (List.mem_cons_of_mem _ he)
    show m≤wn X Y z l (a+f.aX) _∧1000*(cm ⟨a,a+f.aX⟩ z*(dV X Y -c_ X Y f.bL.Rows f.bL.bY)+lc X Y z l (a+f.aX))≤wn X Y z l (a+f.aX) _*(dV X Y*(cm ⟨a,a+f.aX⟩ z+lz z l (a+f.aX)))∧0≤cm ⟨a,a+f.aX⟩ z*(dV X Y -c_ X Y f.bL.Rows f.bL.bY)+lc X Y z l (a+f.aX)∧0≤cm ⟨a,a+f.aX⟩ z+lz z l (a+f.aX)∧(wn X Y z l (a+f.aX) _=0→cm ⟨a,a+f.aX⟩ z*(dV X Y -c_ X Y f.bL.Rows f.bL.bY)+lc X Y z l (a+f.aX)=0)∧(m=0→cm ⟨a,a+f.aX⟩ z*(dV X Y -c_ X Y f.bL.Rows f.bL.bY)+lc X Y z l (a+f.aX)=0→wn X Y z l (a+f.aX) _=0)
    generalize hM:(if a<z.b∧z.a<a+f.aX then max m (lk X Y f.bL) else m)=m' at ih⊢
    obtain⟨i1,i2,i3,i4,i5,i6⟩:=ih;have hp:0≤cm ⟨a,a+f.aX⟩ z*(dV X Y -c_ X Y f.bL.Rows f.bL.bY):=Int.mul_nonneg hc (by omega);by_cases ho:a<z.b∧z.a<a+f.aX
    · rw [if_pos ho] at hM
      have G9:=YW.1 ho;have k1:cm ⟨a,a+f.aX⟩ z*(1000*(dV X Y -c_ X Y f.bL.Rows f.bL.bY))≤cm ⟨a,a+f.aX⟩ z*(lk X Y f.bL*dV X Y):=Int.mul_le_mul_of_nonneg_left hu.1 hc;have k2:lk X Y f.bL*dV X Y≤wn X Y z l (a+f.aX) m'*dV X Y:=Int.mul_le_mul_of_nonneg_right (by omega) (by omega);have k3:=Int.mul_le_mul_of_nonneg_left k2 hc;refine⟨by omega,?_,by omega,by omega,fun h0=>?_,fun h0 h1=>?_⟩
      · rw [Int.mul_add,Int.mul_add,Int.mul_add,show wn X Y z l (a+f.aX) m'*(dV X Y*cm ⟨a,a+f.aX⟩ z)=cm ⟨a,a+f.aX⟩ z*(wn X Y z l (a+f.aX) m'*dV X Y) by rw [←Int.mul_assoc,Int.mul_comm],show 1000*(cm ⟨a,a+f.aX⟩ z*(dV X Y -c_ X Y f.bL.Rows f.bL.bY))=cm ⟨a,a+f.aX⟩ z*(1000*(dV X Y -c_ X Y f.bL.Rows f.bL.bY)) by rw [←Int.mul_assoc,Int.mul_comm 1000,Int.mul_assoc]]
        omega
      · have hlk:lk X Y f.bL=0:=by omega
        rw [hlk,Int.zero_mul] at hu;rw [i5 h0,show dV X Y -c_ X Y f.bL.Rows f.bL.bY=0 by omega,Int.mul_zero]
        rfl
      · have mH:cm ⟨a,a+f.aX⟩ z*(dV X Y -c_ X Y f.bL.Rows f.bL.bY)=0:=by omega
        have lx:dV X Y -c_ X Y f.bL.Rows f.bL.bY=0:=by
          rcases Int.mul_eq_zero.1 mH with h2|h2
          · omega
          · exact h2
        have:=hu.2 lx;exact i6 (by omega) (by omega)
    · rw [if_neg ho] at hM
      have ep:cm ⟨a,a+f.aX⟩ z=0:=by
        have:=fun h=>ho (YW.2 h)
        omega
      rw [ep];simp only [Int.zero_mul,Int.zero_add];exact⟨by omega,i2,i3,i4,i5,fun h0=>i6 (by omega)⟩
theorem YX {l:List aG} (h:kI l) (hc:jj l=some 0) (b:Bx):tw l b=some (bif eI b.x&&(eI b.y&&mn b.z (bJ l)) then wn b.x b.y b.z l 0 0 else 1000):=by
  unfold tw;rw [uV,hc,aT,YI,Ns,length_eq h hc,show((0:Int)!=0)=false from rfl,cond_false]
  simp only [aT,YR];cases hx:eI b.x with
  |false=>rfl
  |true=>
    cases hy:eI b.y with
    |false=>rfl
    |true=>
      cases hz:mn b.z (bJ l) with
      |false=>rfl
      |true=>
        have hr:nK b.x b.y:=⟨pM hx,pM hy⟩;have e1:=YM h (vr:=⟨b.x,b.y⟩) hr;have e2:=YN (l:=lV b.x b.y l 0) (by rw [DC];have:=h.len;omega) b.z;rw [Ny] at e2;show β (sZ l ⟨b.x,b.y⟩) _=_
        rw [e1,aT,e2];rfl
theorem YY {s:Sp} (h:-600≤s.a∧s.a<s.b∧s.b≤600):eI s=true:=by
  unfold eI;rw [decide_eq_true h.1,decide_eq_true h.2.1,decide_eq_true h.2.2];rfl
theorem apL {z:Sp} {n:Int} (h:0≤z.a∧z.a<z.b∧z.b≤n):mn z n=true:=by
  unfold mn;rw [decide_eq_true h.1,decide_eq_true h.2.1,decide_eq_true h.2.2];rfl
def xC (c:Int):Bool:=oH c||(ru c||c==95)
def YZ (c:Int):Bool:=
  (bif(decide (48≤c)) then(decide (c≤57)) else false)
def xD (s:ByteArray) (i:Int):Option (Int⊕(Bool⊕Unit)):=
  (bif(decide (i<((s.size:Nat):Int))) then(β ((β (jW s i) (fun c=>(bif(decide (97≤c)) then(β (jW s i) (fun c1=>some (decide (c1≤122)))) else some false))):Option Bool) (fun letter=>(bif(!letter) then(bif(i==0) then some (ι (κ false)) else(β (jW s i) (fun c2=>(bif(c2 !=95) then(β (jW s i) (fun c3=>(bif(!(YZ c3)) then some (ι (κ false)) else some (κ (U (i+1)))))) else some (κ (U (i+1))))))) else some (κ (U (i+1)))))) else some (ι (ι ())))
def DF (s:ByteArray):Option Bool:=
  (bif(decide (((s.size:Nat):Int)<1)) then some false else(bif(decide (16<((s.size:Nat):Int))) then some false else(β ((bR (fun q=>xD s q) 0):Option (Bool⊕Unit)) (Sum.elim (fun q=>some q) (fun _=>some true)))))
theorem NJ (s:ByteArray):∃b,pz s=some b∧DF s=some b:=by
  unfold pz DF;by_cases h1:s.size<1
  · rw [decide_eq_true (by omega)]
    exact⟨false,rfl,rfl⟩
  · rw [decide_eq_false (by omega),cond_false,cond_false]
    by_cases h2:16<s.size
    · rw [decide_eq_true (by omega)]
      exact⟨false,rfl,rfl⟩
    · rw [decide_eq_false (by omega),cond_false,cond_false]
      have hb:jW s 0=some (iN s 0):=IY (n:=0) (by omega)
      have l1:bR (fun q=>rz s q) 1=some (bif(List.range (s.size -1)).all (fun j=>xC (iN s (j+1))) then .inr () else .inl false):=by
        refine AE (step:=fun q:Int=>rz s q) (s.size -1) (fun j=>((j+1:Nat):Int)) (fun j=>xC (iN s (j+1))) false (fun j hj=>?_) ?_
        · unfold rz
          rw [eb (by omega),cond_true,IY (by omega),aT,cC (by omega)];unfold xC;cases oH (iN s (j+1))<;>cases ru (iN s (j+1))<;>cases h:(iN s (j+1)==95)<;>simp [bne,h]
        · unfold rz
          rw [show s.size -1+1=s.size by omega,eU]
          rfl
      have l2:bR (fun q=>xD s q) 1=some (bif(List.range (s.size -1)).all (fun j=>xC (iN s (j+1))) then .inr () else .inl false):=by
        refine AE (step:=fun q:Int=>xD s q) (s.size -1) (fun j=>((j+1:Nat):Int)) (fun j=>xC (iN s (j+1))) false (fun j hj=>?_) ?_
        · unfold xD
          rw [eb (by omega),cond_true,IY (by omega)];simp only [aT];rw [cC (by omega),show(((j+1:Nat):Int)==0)=false by simp;omega]
          unfold xC oH ru YZ;cases decide (97≤iN s (j+1))<;>cases decide (iN s (j+1)≤122)<;>cases decide (48≤iN s (j+1))<;>cases decide (iN s (j+1)≤57)<;>cases h:(iN s (j+1)==95)<;>simp [bne,h]
        · unfold xD
          rw [show s.size -1+1=s.size by omega,eU]
          rfl
      rw [hb,aT]
      have hs:xD s 0=bif oH (iN s 0) then some (.inl 1) else some (.inr (.inl false)):=by
        unfold xD;rw [show decide ((0:Int)<((s.size:Nat):Int))=true by rw [decide_eq_true_eq];omega,cond_true,hb]
        simp only [aT];unfold oH;cases decide (97≤iN s 0)<;>cases decide (iN s 0≤122)<;>rfl
      cases hc:oH (iN s 0) with
      |false=>
        rw [hc] at hs;rw [gQ hs];exact⟨false,rfl,rfl⟩
      |true=>
        rw [hc] at hs;rw [nm hs,l1,l2];cases(List.range (s.size -1)).all (fun j=>xC (iN s (j+1))) with
        |false=>exact⟨false,rfl,rfl⟩
        |true=>exact⟨true,rfl,rfl⟩
def xE (p:aQ):Option Int:=
 (bif(((p.bQ.length:Nat):Int)==0) then some 3 else(bif(decide (8<((p.bQ.length:Nat):Int))) then some 4 else(bif(((p.da.length:Nat):Int)!=((p.bQ.length:Nat):Int)) then some 19 else(β ((bR (fun q=>AG p q) 0):Option (Int⊕Unit)) (Sum.elim (fun q=>some q) (fun _=>(β ((bR (fun q=>xA p q) 0):Option (Int⊕Unit)) (Sum.elim (fun q=>some q) (fun _=>some 0)))))))))
theorem G_ (p:aQ):pA p=(bif(decide (p.dB<5)) then some 9 else(bif(decide (300<p.dB)) then some 9 else(bif(decide (p.dR<p.dB)) then some 9 else(bif(decide (600<p.dR)) then some 9 else(bif(decide (p.dM<0)) then some 9 else(bif(decide (200<p.dM)) then some 9 else(bif(decide (p.dH<0)) then some 9 else(bif(decide (1000<p.dH)) then some 9 else(bif(decide (600<(iC p).2)) then some 9 else xE p))))))))):=by
  unfold pA xE;have h1:(fun q=>sS p q)=(fun q=>AG p q):=funext fun v=>apA p v
  have h2:(fun q=>sT p q)=(fun q=>xA p q):=funext fun v=>apB p v
  rw [h1,h2,jt,GZ]
structure uZ (p:aQ):Prop where
  t:5≤p.dB∧p.dB≤300
  w:p.dB≤p.dR∧p.dR≤600
  a:0≤p.dM∧p.dM≤200
  n:0≤p.dH∧p.dH≤1000
  l:p.bQ.length≤8
  s:p.da.length=p.bQ.length
  r:∀(j:Nat) (hj:j<p.bQ.length),100≤p.bQ[j]∧p.bQ[j]≤20000∧∀(hi:0<j),p.bQ[j -1]<p.bQ[j]
  c:∀(j:Nat) (hj:j<p.da.length),0≤p.da[j]∧p.da[j]≤1000000
theorem apM (p:aQ):∃c,xE p=some c∧(c=0→p.bQ.length≤8∧p.da.length=p.bQ.length∧(∀(j:Nat) (hj:j<p.bQ.length),100≤p.bQ[j]∧p.bQ[j]≤20000∧∀(hi:0<j),p.bQ[j -1]<p.bQ[j])∧∀(j:Nat) (hj:j<p.da.length),0≤p.da[j]∧p.da[j]≤1000000):=by
  unfold xE;by_cases h0:p.bQ.length=0
  · rw [show((((p.bQ.length:Nat):Int))==0)=true by simp [h0]]
    exact⟨3,rfl,fun h=>by omega⟩
  · rw [show((((p.bQ.length:Nat):Int))==0)=false by simp;intro h;simp [h] at h0,cond_false]
    by_cases h1:8<p.bQ.length
    · rw [decide_eq_true (by omega)]
      exact⟨4,rfl,fun h=>by omega⟩
    · rw [decide_eq_false (by omega),cond_false]
      by_cases h2:p.da.length=p.bQ.length
      · rw [show((((p.da.length:Nat):Int))!=((p.bQ.length:Nat):Int))=false by simp [h2],cond_false]
        obtain⟨y,hy,hG⟩:=uj (step:=fun q:Int=>AG p q) (fun q=>∃k:Nat,k≤p.bQ.length∧q=(k:Int)∧∀(j:Nat) (hj:j<p.bQ.length),j<k→100≤p.bQ[j]∧p.bQ[j]≤20000∧∀(hi:0<j),p.bQ[j -1]<p.bQ[j]) (fun q=>p.bQ.length -q.toNat) (fun y=>(∃c,y=.inl c∧c≠0)∨(y=.inr ()∧∀(j:Nat) (hj:j<p.bQ.length),100≤p.bQ[j]∧p.bQ[j]≤20000∧∀(hi:0<j),p.bQ[j -1]<p.bQ[j])) (by
          rintro q ⟨k,hk,rfl,ha⟩;unfold AG;rcases Nat.lt_or_ge k p.bQ.length with cn|tS
          · rw [eb cn,cond_true,dw cn]
            simp only [aT];by_cases h3:p.bQ[k]<100
            · rw [decide_eq_true h3]
              exact .inr ⟨_,rfl,.inl ⟨_,rfl,by omega⟩⟩
            · rw [decide_eq_false h3,cond_false]
              by_cases h4:20000<p.bQ[k]
              · rw [decide_eq_true h4]
                exact .inr ⟨_,rfl,.inl ⟨_,rfl,by omega⟩⟩
              · rw [decide_eq_false h4,cond_false,cC (by omega)]
                have ub:∀(hh:∀(hi:0<k),p.bQ[k -1]<p.bQ[k]),(∃x',(some (κ ((k+1:Nat):Int)):Option (Int⊕(Int⊕Unit)))=some (.inl x')∧(∃k:Nat,k≤p.bQ.length∧x'=(k:Int)∧∀(j:Nat) (hj:j<p.bQ.length),j<k→100≤p.bQ[j]∧p.bQ[j]≤20000∧∀(hi:0<j),p.bQ[j -1]<p.bQ[j])∧p.bQ.length -x'.toNat<p.bQ.length -((k:Int)).toNat):=by
                  intro hh;refine⟨_,rfl,⟨k+1,by omega,rfl,fun j hj DG=>?_⟩,by omega⟩;rcases Nat.lt_or_ge j k with h5|h5
                  · exact ha j hj h5
                  · have:j=k:=by omega
                    subst this;exact⟨by omega,by omega,hh⟩
                by_cases h5:0<k
                · have g1:=dw (l:=p.bQ) (j:=k -1) (by omega)
                  rw [decide_eq_true (p:=(0:Int)<(k:Int)) (by omega),cond_true,b_ (by omega) (by omega),show(k:Int) -1=((k -1:Nat):Int) by omega,g1,aT]
                  by_cases h6:p.bQ[k]≤p.bQ[k -1]
                  · rw [decide_eq_true h6]
                    exact .inr ⟨_,rfl,.inl ⟨_,rfl,by omega⟩⟩
                  · rw [decide_eq_false h6]
                    exact .inl (ub fun _=>by omega)
                · rw [decide_eq_false (p:=(0:Int)<(k:Int)) (by omega)]
                  exact .inl (ub fun h=>absurd h h5)
          · have:k=p.bQ.length:=by omega
            subst this;rw [eU];exact .inr ⟨_,rfl,.inr ⟨rfl,fun j hj=>ha j hj hj⟩⟩) 0 ⟨0,by omega,rfl,fun j _ h=>by omega⟩
        rw [hy,aT];rcases hG with⟨c,rfl,hc⟩|⟨rfl,fm⟩
        · exact⟨c,rfl,fun h=>absurd h hc⟩
        · rw [Sum.elim_inr]
          have mi:=AE (step:=fun q:Int=>xA p q) p.da.length (fun j=>(j:Int)) (fun j=>(p.da[j]?).elim true fun e=>!(decide (e<0)||decide (1000000<e))) (9:Int) (fun j hj=>by
            unfold xA;rw [eb hj,cond_true,dw hj,aT,aT,cC (by omega),List.getElem?_eq_getElem hj];show _=bif !(decide (p.da[j]<0)||decide (1000000<p.da[j])) then _ else _
            cases decide (p.da[j]<0)<;>cases decide (1000000<p.da[j])<;>rfl) (by
            unfold xA;rw [eU];rfl)
          rw [show((0:Nat):Int)=0 from rfl] at mi
          rw [mi,aT];cases sj:(List.range p.da.length).all (fun j=>(p.da[j]?).elim true fun e=>!(decide (e<0)||decide (1000000<e))) with
          |false=>exact⟨9,rfl,fun h=>by omega⟩
          |true=>
            refine⟨0,rfl,fun _=>⟨by omega,h2,fm,fun j hj=>?_⟩⟩;rw [List.all_eq_true] at sj;have:=sj j (List.mem_range.2 hj);rw [List.getElem?_eq_getElem hj] at this;have h4:(!(decide (p.da[j]<0)||decide (1000000<p.da[j])))=true:=this;rw [Bool.not_eq_true',Bool.or_eq_false_iff,decide_eq_false_iff_not,decide_eq_false_iff_not] at h4;omega
      · rw [show((((p.da.length:Nat):Int))!=((p.bQ.length:Nat):Int))=true by simp;omega]
        exact⟨19,rfl,fun h=>by omega⟩
theorem NK (p:aQ):∃c,pA p=some c∧(c=0→uZ p):=by
  rw [G_];by_cases h1:p.dB<5
  · rw [decide_eq_true h1]
    exact⟨9,rfl,fun h=>by omega⟩
  rw [decide_eq_false h1,cond_false];by_cases h2:300<p.dB
  · rw [decide_eq_true h2]
    exact⟨9,rfl,fun h=>by omega⟩
  rw [decide_eq_false h2,cond_false];by_cases h3:p.dR<p.dB
  · rw [decide_eq_true h3]
    exact⟨9,rfl,fun h=>by omega⟩
  rw [decide_eq_false h3,cond_false];by_cases h4:600<p.dR
  · rw [decide_eq_true h4]
    exact⟨9,rfl,fun h=>by omega⟩
  rw [decide_eq_false h4,cond_false];by_cases h5:p.dM<0
  · rw [decide_eq_true h5]
    exact⟨9,rfl,fun h=>by omega⟩
  rw [decide_eq_false h5,cond_false];by_cases h6:200<p.dM
  · rw [decide_eq_true h6]
    exact⟨9,rfl,fun h=>by omega⟩
  rw [decide_eq_false h6,cond_false];by_cases h7:p.dH<0
  · rw [decide_eq_true h7]
    exact⟨9,rfl,fun h=>by omega⟩
  rw [decide_eq_false h7,cond_false];by_cases h8:1000<p.dH
  · rw [decide_eq_true h8]
    exact⟨9,rfl,fun h=>by omega⟩
  rw [decide_eq_false h8,cond_false];cases decide (600<(iC p).2) with
  |true=>exact⟨9,rfl,fun h=>by omega⟩
  |false=>
    obtain⟨c,hc,fm⟩:=apM p;refine⟨c,hc,fun h=>?_⟩;obtain⟨a1,a2,a3,a4⟩:=fm h;exact⟨by omega,by omega,by omega,by omega,a1,a2,a3,a4⟩
theorem apN (p:aQ):lS [p] 0=(pz p.Name).bind fun iv=>bif !iv then some (.inr (.inl 6)) else(pA p).bind fun cv=>bif(cv !=0) then some (.inr (.inl cv)) else some (.inl 1):=by
  unfold lS;show(β (pz p.Name) fun iv=>(bif(!iv) then some (ι (κ 6)) else(β (rB [] p.Name) (fun fv=>(bif fv.2 then some (ι (κ 7)) else(β (pA p) (fun cv=>(bif(cv !=0) then some (ι (κ cv)) else some (κ 1)))))))))=_
  have hf:rB [] p.Name=some (0,false):=by
    unfold rB;rw [gQ (y:=.inr ()) rfl];rfl
  rw [hf];rfl
def AJ (l:List aQ) (i:Int) (e:aQ) (k:Int):Option (Int⊕(((Int⊕(Int⊕Unit))⊕Unit)⊕Unit)):=
 (bif(decide (k<i)) then(β (aK l k) (fun e1=>(bif(kj e1.Name e.Name) then some (ι (κ (κ (ι (κ 7))))) else some (κ (U (k+1)))))) else some (ι (ι ())))
def nL (l:List aQ) (i:Int):Option (Int⊕(Int⊕Unit)):=
 (bif(decide (i<((l.length:Nat):Int))) then(β ((β (aK l i) (fun e=>(β (DF e.Name) (fun iv=>(bif(!iv) then some (κ (ι (κ 6))) else(β ((bR (fun q=>AJ l i e q) 0):Option (((Int⊕(Int⊕Unit))⊕Unit)⊕Unit)) (Sum.elim (fun q=>some q) (fun _=>(bif(decide (e.dB<5)) then some (κ (ι (κ 9))) else(bif(decide (300<e.dB)) then some (κ (ι (κ 9))) else(bif(decide (e.dR<e.dB)) then some (κ (ι (κ 9))) else(bif(decide (600<e.dR)) then some (κ (ι (κ 9))) else(bif(decide (e.dM<0)) then some (κ (ι (κ 9))) else(bif(decide (200<e.dM)) then some (κ (ι (κ 9))) else(bif(decide (e.dH<0)) then some (κ (ι (κ 9))) else(bif(decide (1000<e.dH)) then some (κ (ι (κ 9))) else(cH (iC e) (fun gv=>(bif(decide (600<gv.2)) then some (κ (ι (κ 9))) else(β (xE e) (fun cv=>(bif(cv !=0) then some (κ (ι (κ cv))) else some (ι ()))))))))))))))))))))))):Option ((Int⊕(Int⊕Unit))⊕Unit)) (Sum.elim (fun q=>some q) (fun _=>some (κ (U (i+1)))))) else some (ι (ι ())))
theorem Y0 (p:aQ):nL [p] 0=(DF p.Name).bind fun iv=>bif !iv then some (.inr (.inl 6)) else(pA p).bind fun cv=>bif(cv !=0) then some (.inr (.inl cv)) else some (.inl 1):=by
  rw [G_];unfold nL;rw [show decide ((0:Int)<(([p].length:Nat):Int))=true from rfl,cond_true,show aK [p] 0=some p from rfl,aT]
  cases DF p.Name with
  |none=>rfl
  |some iv=>
    rw [aT,aT];cases iv with
    |false=>rfl
    |true=>
      rw [show(!true)=false from rfl,cond_false,cond_false,gQ (y:=.inr ()) rfl,aT,Sum.elim_inr,jt]
      cases decide (p.dB<5) with
      |true=>rfl
      |false=>
      cases decide (300<p.dB) with
      |true=>rfl
      |false=>
      cases decide (p.dR<p.dB) with
      |true=>rfl
      |false=>
      cases decide (600<p.dR) with
      |true=>rfl
      |false=>
      cases decide (p.dM<0) with
      |true=>rfl
      |false=>
      cases decide (200<p.dM) with
      |true=>rfl
      |false=>
      cases decide (p.dH<0) with
      |true=>rfl
      |false=>
      cases decide (1000<p.dH) with
      |true=>rfl
      |false=>
      cases decide (600<(iC p).2) with
      |true=>rfl
      |false=>
      cases xE p with
      |none=>rfl
      |some c=>
        simp only [cond_false,aT];cases(c !=0)<;>rfl
def u0 (l:List aQ):Option Int:=
 (bif(decide (16<((l.length:Nat):Int))) then some 4 else(β ((bR (fun q=>nL l q) 0):Option (Int⊕Unit)) (Sum.elim (fun q=>some q) (fun _=>some 0))))
theorem NL (p:aQ):∃c,nD [p]=some c∧u0 [p]=some c∧(c=0→uZ p):=by
  obtain⟨b,n1,n2⟩:=NJ p.Name;obtain⟨c,hc,fm⟩:=NK p;have s1:=apN p;have s2:=Y0 p;rw [n1,hc,aT,aT] at s1;rw [n2,hc,aT,aT] at s2;have e1:lS [p] 1=some (.inr (.inr ())):=rfl;have e2:nL [p] 1=some (.inr (.inr ())):=rfl;unfold nD u0;rw [show decide ((16:Int)<(([p].length:Nat):Int))=false from rfl,cond_false,cond_false]
  cases b with
  |false=>
    rw [gQ (step:=fun q=>lS [p] q) s1,gQ (step:=fun q=>nL [p] q) s2];exact⟨6,rfl,rfl,fun h=>by omega⟩
  |true=>
    by_cases h0:c=0
    · subst h0
      rw [nm (step:=fun q=>lS [p] q) s1,nm (step:=fun q=>nL [p] q) s2,gQ (step:=fun q=>lS [p] q) e1,gQ (step:=fun q=>nL [p] q) e2];exact⟨0,rfl,rfl,fm⟩
    · rw [kc h0] at s1 s2
      rw [gQ (step:=fun q=>lS [p] q) s1,gQ (step:=fun q=>nL [p] q) s2];exact⟨c,rfl,rfl,fm⟩
def AK (p:aQ) (length:Int) (i:Int):Option (Int⊕((Int×Bool)⊕Unit)):=
 (bif(decide (i<((p.bQ.length:Nat):Int))) then(β (aK p.bQ i) (fun e=>(bif(e==length) then(bif(decide (((p.da.length:Nat):Int)≤i)) then some (ι (κ (0,false))) else(β (aK p.da i) (fun e1=>some (ι (κ (e1,true)))))) else some (κ (U (i+1)))))) else some (ι (ι ())))
theorem apO (p:aQ) (n v:Int):s_ p n v=AK p n v:=by
  unfold s_ AK;cases decide (v<((p.bQ.length:Nat):Int)) with
  |false=>rfl
  |true=>
    cases aK p.bQ v with
    |none=>rfl
    |some e=>
      simp only [cond_true,aT,bne];cases(e==n)<;>rfl
def u4 (p:aQ) (length:Int):Option (Int×Bool):=
 (β ((bR (fun q=>AK p length q) 0):Option ((Int×Bool)⊕Unit)) (Sum.elim (fun q=>some q) (fun _=>some (0,false))))
theorem apP (p:aQ) (n:Int):xd p n=u4 p n:=by
  unfold xd u4;have h1:(fun q=>s_ p n q)=(fun q=>AK p n q):=funext fun v=>apO p n v
  rw [h1]
def oV (a:Sp) (b:Sp):Sp:=
  (bif(decide ((min a.b b.b)≤(max a.a b.a))) then(⟨0,0⟩:Sp) else(⟨max a.a b.a,min a.b b.b⟩:Sp))
def NM (a:Bx) (b:Bx):Bx:=
  (cH (oV a.x b.x) (fun mv=>(cH (oV a.y b.y) (fun mQ=>(cH (oV a.z b.z) (fun uI=>(⟨mv,mQ,uI⟩:Bx)))))))
def AL (d:Df) (b:Bx):Bool:=
  (cH (NM d.b b) (fun mv=>(!(pL mv))))
theorem NN (d:Df) (b:Bx):rG d b=AL d b:=by
  unfold rG AL xb NM pL nC;simp only [jt];rw [show lT=oV from rfl]
  cases decide ((oV d.b.x b.x).b≤(oV d.b.x b.x).a)<;>cases decide ((oV d.b.y b.y).b≤(oV d.b.y b.y).a)<;>cases decide ((oV d.b.z b.z).b≤(oV d.b.z b.z).a)<;>rfl
theorem apQ {X Y:Type} {s1 s2:X→Option (X⊕Y)} (n:Nat) (st:Nat→X) (Good:Nat→Prop) (NO:Y→Prop) (fin:Y)
    (h:∀j,j<n→(s1 (st j)=some (.inl (st (j+1)))∧s2 (st j)=some (.inl (st (j+1)))∧Good j)∨∃y,s1 (st j)=some (.inr y)∧s2 (st j)=some (.inr y)∧NO y)
    (he:s1 (st n)=some (.inr fin)∧s2 (st n)=some (.inr fin)):∃y,bR s1 (st 0)=some y∧bR s2 (st 0)=some y∧((y=fin∧∀j,j<n→Good j)∨NO y):=by
  have:∀k,k≤n→∃y,bR s1 (st (n -k))=some y∧bR s2 (st (n -k))=some y∧((y=fin∧∀j,n -k≤j→j<n→Good j)∨NO y):=by
    intro k
    induction k with
    |zero=>
      intro _;exact⟨fin,gQ he.1,gQ he.2,.inl ⟨rfl,fun j h1 h2=>by omega⟩⟩
    |succ k ih=>
      intro hk;rcases h (n -(k+1)) (by omega) with⟨g1,g2,g3⟩|⟨y,g1,g2,g3⟩
      · obtain⟨y,e1,e2,e3⟩:=ih (by omega)
        rw [show n -(k+1)+1=n -k by omega] at g1 g2
        refine⟨y,by rw [nm g1,e1],by rw [nm g2,e2],e3.imp (fun⟨hy,e3⟩=>⟨hy,fun j h1 h2=>?_⟩) id⟩;by_cases hj:j=n -(k+1)
        · rw [hj]
          exact g3
        · exact e3 j (by omega) h2
      · exact⟨y,gQ g1,gQ g2,.inr g3⟩
  obtain⟨y,e1,e2,e3⟩:=this n (Nat.le_refl _);rw [Nat.sub_self] at e1 e2 e3;exact⟨y,e1,e2,e3.imp (fun⟨hy,e3⟩=>⟨hy,fun j hj=>e3 j (by omega) hj⟩) id⟩
theorem apR {l:List Int} (hl:l.length≤9223372036854775807) (n:Int):De l n=some (l.any fun e=>e==n):=by
  unfold De GN
  have:=No (step:=fun q:Int=>uT l n q) l.length (fun j=>(j:Int)) (fun j=>(l[j]?).elim false fun e=>e==n) (fun j=>.inl (j:Int)) (.inr ()) (fun j hj hp=>by
    rw [List.getElem?_eq_getElem hj] at hp;have qI:(l[j]==n)=false:=hp;unfold uT;rw [eb hj,cond_true,dw hj,aT,show(n==l[j])=false by rw [←qI,Bool.eq_iff_iff];simp;exact eq_comm,cC (by omega)]
    rfl) (fun j hj hp=>by
    rw [List.getElem?_eq_getElem hj] at hp;have qI:(l[j]==n)=true:=hp;unfold uT;rw [eb hj,cond_true,dw hj,aT,show(n==l[j])=true by rw [←qI,Bool.eq_iff_iff];simp;exact eq_comm]
    rfl) (by
    unfold uT;rw [eU];rfl)
  rw [show((0:Nat):Int)=0 from rfl] at this
  rw [this,aT];cases hf:(List.range l.length).find? (fun j=>(l[j]?).elim false fun e=>e==n) with
  |none=>
    rw [List.find?_eq_none] at hf
    have:(l.any fun e=>e==n)=false:=by
      rw [List.any_eq_false];intro e he;obtain⟨j,hj,rfl⟩:=List.getElem_of_mem he;have:=hf j (List.mem_range.2 hj);rw [List.getElem?_eq_getElem hj] at this;exact this
    rw [this];rfl
  |some j=>
    have h1:=List.find?_some hf;have h2:=List.mem_range.1 (List.mem_of_find?_eq_some hf);rw [List.getElem?_eq_getElem h2] at h1
    have:(l.any fun e=>e==n)=true:=by
      rw [List.any_eq_true];exact⟨l[j],List.getElem_mem h2,h1⟩
    rw [this];show some (decide (0≤(j:Int)))=some true
    rw [decide_eq_true (by omega)]
def lf (s:ByteArray) (m:Int) (i:Nat):Int:=(m+((i:Int)+1)*iN s i)%23
theorem find_eq {l:List aQ} (hl:l.length≤1000000) (name:ByteArray):∃k,rB l name=some (k,l.any fun q=>kj q.Name name):=by
  unfold rB
  have:=No (step:=fun q:Int=>rA l name q) l.length (fun j=>(j:Int)) (fun j=>(l[j]?).elim false fun e=>kj e.Name name) (fun j=>.inl ((j:Int),true)) (.inr ()) (fun j hj hp=>by
    rw [List.getElem?_eq_getElem hj] at hp;have qI:kj l[j].Name name=false:=hp;unfold rA;rw [eb hj,cond_true,dw hj,aT,qI,cC (by omega)];rfl) (fun j hj hp=>by
    rw [List.getElem?_eq_getElem hj] at hp;have qI:kj l[j].Name name=true:=hp;unfold rA;rw [eb hj,cond_true,dw hj,aT,qI];rfl) (by
    unfold rA;rw [eU];rfl)
  rw [show((0:Nat):Int)=0 from rfl] at this
  rw [this,aT];cases hf:(List.range l.length).find? (fun j=>(l[j]?).elim false fun e=>kj e.Name name) with
  |none=>
    rw [List.find?_eq_none] at hf
    have:(l.any fun q=>kj q.Name name)=false:=by
      rw [List.any_eq_false];intro e he;obtain⟨j,hj,rfl⟩:=List.getElem_of_mem he;have:=hf j (List.mem_range.2 hj);rw [List.getElem?_eq_getElem hj] at this;exact this
    rw [this];exact⟨0,rfl⟩
  |some j=>
    have h1:=List.find?_some hf;have h2:=List.mem_range.1 (List.mem_of_find?_eq_some hf);rw [List.getElem?_eq_getElem h2] at h1
    have:(l.any fun q=>kj q.Name name)=true:=by
      rw [List.any_eq_true];exact⟨l[j],List.getElem_mem h2,h1⟩
    rw [this];exact⟨_,rfl⟩
theorem apS {l:List aQ} (hl:l.length≤1000000) {i:Nat} (hi:i≤l.length) (e:aQ):bR (fun q:Int=>AJ l (i:Int) e q) 0=some (bif(l.take i).any (fun q=>kj q.Name e.Name) then .inl (.inl (.inr (.inl 7))) else .inr ()):=by
  have hlen:(l.take i).length=i:=by rw [List.length_take];omega
  have:=Dy (step:=fun q:Int=>AJ l (i:Int) e q) (l.take i) (fun q=>kj q.Name e.Name) (fun(u:Unit) _=>u) () (fun _ j=>(j:Int)) (.inl (.inl (.inr (.inl 7)))) (fun _=>.inr ()) (fun _ _=>True) trivial (fun _ _ _ _ _=>trivial) (fun s j hj _ hb=>by
    rw [hlen] at hj;unfold AJ;rw [List.getElem_take] at hb;rw [eb hj,cond_true,dw (show j<l.length by omega),aT,hb,cond_false,cC (by omega)]) (fun s j hj _ hb=>by
    rw [hlen] at hj;unfold AJ;rw [List.getElem_take] at hb;rw [eb hj,cond_true,dw (show j<l.length by omega),aT,hb]
    rfl) (fun _ _=>by
    unfold AJ;rw [hlen,eU];rfl)
  exact this
theorem apT (c:List aQ):∃e,nD c=some e∧u0 c=some e∧(e=0→c.length≤16∧∀p∈c,uZ p):=by
  unfold nD u0;by_cases h16:16<c.length
  · rw [decide_eq_true (by omega)]
    exact⟨4,rfl,rfl,fun h=>by omega⟩
  · rw [decide_eq_false (by omega),cond_false,cond_false]
    obtain⟨y,h1,h2,h3⟩:=apQ (s1:=fun q=>lS c q) (s2:=fun q=>nL c q) c.length (fun j=>(j:Int)) (fun j=>∀hj:j<c.length,uZ c[j]) (fun y=>∃v,y=.inl v∧v≠0) (.inr ()) (fun j hj=>by
      obtain⟨b,n1,n2⟩:=NJ c[j].Name;obtain⟨k,hf⟩:=find_eq (l:=c.take j) (by rw [List.length_take];omega) c[j].Name;obtain⟨v,hv,fm⟩:=NK c[j]
      have A8:nq c 0 (j:Int)=some (c.take j):=by
        rw [IZ (by omega) (by omega) (by omega)];simp
      have e1:lS c (j:Int)=bif b then(bif(c.take j).any (fun q=>kj q.Name c[j].Name) then some (.inr (.inl 7)) else(bif(v !=0) then some (.inr (.inl v)) else some (.inl ((j+1:Nat):Int)))) else some (.inr (.inl 6)):=by
        unfold lS;rw [eb hj,cond_true,dw hj,aT,n1,aT,A8,aT,hf,aT,hv,aT,cC (by omega)];cases b<;>rfl
      have e2:nL c (j:Int)=bif b then(bif(c.take j).any (fun q=>kj q.Name c[j].Name) then some (.inr (.inl 7)) else(bif(v !=0) then some (.inr (.inl v)) else some (.inl ((j+1:Nat):Int)))) else some (.inr (.inl 6)):=by
        rw [G_] at hv;unfold nL;rw [eb hj,cond_true,dw hj,aT,n2,aT,apS (by omega) (by omega),aT,cC (by omega)];cases b with
        |false=>rfl
        |true=>
          cases(c.take j).any (fun q=>kj q.Name c[j].Name) with
          |true=>rfl
          |false=>
            rw [show(!true)=false from rfl,cond_false,cond_true,cond_false,cond_false,Sum.elim_inr,jt]
            revert hv;cases decide (c[j].dB<5) with
            |true=>intro hv;cases hv;rfl
            |false=>
            cases decide (300<c[j].dB) with
            |true=>intro hv;cases hv;rfl
            |false=>
            cases decide (c[j].dR<c[j].dB) with
            |true=>intro hv;cases hv;rfl
            |false=>
            cases decide (600<c[j].dR) with
            |true=>intro hv;cases hv;rfl
            |false=>
            cases decide (c[j].dM<0) with
            |true=>intro hv;cases hv;rfl
            |false=>
            cases decide (200<c[j].dM) with
            |true=>intro hv;cases hv;rfl
            |false=>
            cases decide (c[j].dH<0) with
            |true=>intro hv;cases hv;rfl
            |false=>
            cases decide (1000<c[j].dH) with
            |true=>intro hv;cases hv;rfl
            |false=>
            cases decide (600<(iC c[j]).2) with
            |true=>intro hv;cases hv;rfl
            |false=>
              intro hv;have A':xE c[j]=some v:=hv;simp only [cond_false];rw [A',aT];cases(v !=0)<;>rfl
      rw [e1,e2];cases b with
      |false=>exact .inr ⟨_,rfl,rfl,_,rfl,by omega⟩
      |true=>
        cases(c.take j).any (fun q=>kj q.Name c[j].Name) with
        |true=>exact .inr ⟨_,rfl,rfl,_,rfl,by omega⟩
        |false=>
          by_cases h0:v=0
          · subst h0
            exact .inl ⟨rfl,rfl,fun _=>fm rfl⟩
          · rw [show(v !=0)=true by simp [h0]]
            exact .inr ⟨_,rfl,rfl,_,rfl,h0⟩) (by
      unfold lS nL;rw [eU];exact⟨rfl,rfl⟩)
    rw [show((0:Nat):Int)=0 from rfl] at h1 h2
    rw [h1,h2,aT];rcases h3 with⟨rfl,h3⟩|⟨v,rfl,hv⟩
    · refine⟨0,rfl,rfl,fun _=>⟨by omega,fun p hp=>?_⟩⟩
      obtain⟨j,hj,rfl⟩:=List.getElem_of_mem hp;exact h3 j hj hj
    · exact⟨v,rfl,rfl,fun h=>absurd h hv⟩
def mZ (s:Sp):Bool:=decide (s.b≤s.a)
def oW (b:Bx):Bool:=mZ b.x||(mZ b.y||mZ b.z)
def lX (s:Sp) (lo hi:Int):Bool:=decide (lo≤min s.a s.b)&&decide (max s.a s.b≤hi)
def k8 (d:Df):Int:=
  bif decide (d.k<1)||decide (6<d.k) then 10
  else bif oW d.b then 19
  else bif !lX d.b.x (-600) 600||(!lX d.b.y (-600) 600||!lX d.b.z 0 20000) then 9 else 0
def DH (p q:Bx):Bx:=⟨meet p.x q.x,meet p.y q.y,meet p.z q.z⟩
def Y1:Bx:=⟨⟨0,0⟩,⟨0,0⟩,⟨0,0⟩⟩
def xF (p q:Bx):Bool:=!oW (DH p q)
def Ha (p q:Bx):Bx:=bif xF p q then DH p q else Y1
def DI (s:Sp) (n:Int):Sp:=⟨IntKind.i64.wrap (s.a -n),IntKind.i64.wrap (s.b -n)⟩
def u5 (s:Sp) (lo hi:Int):Bool:=decide (lo≤s.a)&&decide (s.b≤hi)
def xG (b:Bx):Bool:=u5 b.x (-600) 600&&(u5 b.y (-600) 600&&u5 b.z 0 20000)
def u6 {α:Type} (f:α→Int):List α→Int
  |[]=>0
  |a::l=>if f a=0 then u6 f l else f a
theorem Y2 {α:Type} {f:α→Int}:∀{l:List α},(∀d,d∈l→f d=0)→u6 f l=0
  |[],_=>rfl
  |a::l,h=>by
    rw [u6,if_pos (h a (by simp))];exact Y2 fun d hd=>h d (by simp [hd])
theorem Y3 {α:Type} {f:α→Int}:∀{l:List α},u6 f l=0→∀d,d∈l→f d=0
  |[],_,d,hd=>by simp at hd
  |a::l,h,d,hd=>by
    rw [u6] at h;split at h
    · rename_i h0
      rcases List.mem_cons.1 hd with rfl|hd
      · exact h0
      · exact Y3 h d hd
    · rename_i h0;exact absurd h h0
def ly (l:List Df):Int:=if 64<l.length then 4 else u6 k8 l
def DJ (d:Df):Int:=bif decide (d.k<1)||decide (6<d.k) then 10 else bif oW d.b then 19 else bif !xG d.b then 9 else 0
theorem NP {s:Sp} (h:mZ s=false) (lo hi:Int):lX s lo hi=u5 s lo hi:=by
  unfold mZ at h;have h:=of_decide_eq_false h;unfold lX u5;congr 1
  · exact decide_eq_decide.2 (by omega)
  · exact decide_eq_decide.2 (by omega)
theorem NQ (d:Df):k8 d=DJ d:=by
  unfold k8 DJ;cases h:oW d.b
  · unfold oW at h
    simp only [Bool.or_eq_false_iff] at h;rw [NP h.1,NP h.2.1,NP h.2.2];simp [xG]
  · simp
def Y4 (l:List Df):Prop:=∀d,d∈l→d.ok
theorem Y4.at {l:List Df} (h:Y4 l) {k:Nat} (hk:k<l.length):(l[k]).ok:=h _ (List.getElem_mem hk)
def tT (b q:Bx):Bx:=⟨DI b.x q.x.a,DI b.y q.y.a,DI b.z q.z.a⟩
def qK (b:Bx) (d:Df):Option Df:=bif xF d.b b then some ⟨d.k,tT (Ha d.b b) b⟩ else none
def b3 (b:Bx):Nat→Sp
  |0=>b.x
  |1=>b.y
  |_=>b.z
def okB (b:Bx):Prop:=∀i,i<3→lX (b3 b i) (-1099511627776) 1099511627776=true
instance(b:Bx):Decidable (okB b):=inferInstanceAs (Decidable (∀i,i<3→_))
def qL (l:List Df) (b:Bx):List Df:=if ly l=0∧okB b then l.filterMap (qK b) else []
theorem Y5 {l:List Df} (h:ly l=0):l.length≤64:=by
  unfold ly at h;split at h
  · cases h
  · omega
theorem apU (a b:Sp):lT a b=meet a b:=by unfold lT meet;simp only [Bool.cond_decide]
theorem Y6 (d:Df):rq d=k8 d:=by
  unfold rq k8 cH oW lX nC oF mZ
  grind
theorem apV (b:Bx):pL b=oW b:=by unfold pL oW mZ;grind
theorem apW (b:Bx):xz b=xG b:=by unfold xz xG u5 tA;grind
theorem NR {α:Type} (f:α→Int):∀l:List α,u6 f l=(l.find? (fun e=>f e !=0)).elim 0 f
  |[]=>rfl
  |a::l=>by
    rw [u6,List.find?_cons];by_cases h:f a=0
    · simp [h,NR f l]
    · have h':(f a !=0)=true:=by simpa using h
      rw [if_neg h,h'];rfl
theorem DK {l:List Df} (hl:l.length≤9223372036854775807):lR l=some (ly l):=by
  unfold lR ly;by_cases h:64<l.length
  · rw [if_pos h,decide_eq_true (by omega),cond_true]
  · have:=Nn (step:=fun q=>oG l q) l (fun j=>((j:Nat):Int)) (fun e=>k8 e !=0) (fun e=>κ (k8 e)) (ι ()) (by
      intro j hj hp;unfold oG;rw [eb hj,dw hj,cond_true,aT,Y6,hp,cond_false,cC (by omega)]) (by
      intro j hj hp;unfold oG;rw [eb hj,dw hj,cond_true,aT,Y6,hp,cond_true]) (by
      unfold oG;rw [eU,cond_false])
    rw [show((0:Int))=((0:Nat):Int) from rfl,this,NR,if_neg h,decide_eq_false (by omega),cond_false,aT]
    cases l.find? (fun e=>k8 e !=0)<;>rfl
theorem apX {l:List Df} (hl:l.length≤9223372036854775807):uW l=some (ly l):=by
  unfold uW ly;by_cases h:64<l.length
  · rw [if_pos h,decide_eq_true (by omega),cond_true]
  · have key:∀j (hj:j<l.length),rT l (j:Int)=bif k8 l[j]!=0 then some (ι (κ (k8 l[j]))) else some (κ (((j+1:Nat)):Int)):=by
      intro j hj;unfold rT;rw [eb hj,dw hj,cond_true];simp only [aT,apV,apW,cC (show j<9223372036854775807 by omega),NQ,DJ]
      grind
    have:=Nn (step:=fun q=>rT l q) l (fun j=>((j:Nat):Int)) (fun e=>k8 e !=0) (fun e=>κ (k8 e)) (ι ()) (by
      intro j hj hp;rw [key j hj,hp,cond_false]) (by
      intro j hj hp;rw [key j hj,hp,cond_true]) (by
      unfold rT;rw [eU,cond_false])
    rw [show((0:Int))=((0:Nat):Int) from rfl,this,NR,if_neg h,decide_eq_false (by omega),cond_false,aT]
    cases l.find? (fun e=>k8 e !=0)<;>rfl
theorem Y7 {d:Df} (h:k8 d=0):1≤d.k∧d.k≤6∧d.b.x.a<d.b.x.b∧d.b.y.a<d.b.y.b∧d.b.z.a<d.b.z.b∧-600≤d.b.x.a∧d.b.x.b≤600∧-600≤d.b.y.a∧d.b.y.b≤600∧0≤d.b.z.a∧d.b.z.b≤20000:=by
  rw [NQ] at h;unfold DJ at h;cases h1:(decide (d.k<1)||decide (6<d.k)) with
  |true=>rw [h1] at h;cases h
  |false=>
    cases h2:oW d.b with
    |true=>rw [h1,h2] at h;cases h
    |false=>
      cases h3:xG d.b with
      |false=>rw [h1,h2,h3] at h;cases h
      |true=>
        unfold oW mZ at h2;unfold xG u5 at h3;simp only [Bool.or_eq_false_iff,Bool.and_eq_true,decide_eq_false_iff_not,decide_eq_true_eq] at h1 h2 h3;omega
theorem apY {d:Df} (h:1≤d.k∧d.k≤6∧d.b.x.a<d.b.x.b∧d.b.y.a<d.b.y.b∧d.b.z.a<d.b.z.b∧-600≤d.b.x.a∧d.b.x.b≤600∧-600≤d.b.y.a∧d.b.y.b≤600∧0≤d.b.z.a∧d.b.z.b≤20000):k8 d=0:=by
  rw [NQ];unfold DJ oW mZ xG u5
  grind
theorem Hb {l:List Df}:ly l=0↔l.length≤64∧∀d∈l,k8 d=0:=by
  unfold ly;constructor
  · intro h
    split at h
    · cases h
    · exact⟨by omega,Y3 h⟩
  · rintro⟨h1,h2⟩
    rw [if_neg (by omega)];exact Y2 h2
theorem apZ {s t:Sp}:(!mZ (meet s t))=decide (max s.a t.a<min s.b t.b):=by
  unfold mZ meet;by_cases h:min s.b t.b≤max s.a t.a
  · rw [if_pos h,decide_eq_false (show¬max s.a t.a<min s.b t.b by omega)]
    rfl
  · rw [if_neg h,decide_eq_true (show max s.a t.a<min s.b t.b by omega)]
    dsimp only;rw [decide_eq_false h];rfl
theorem ap0 (p q:Bx):xb p q=(Ha p q,xF p q):=by
  unfold xb;simp only [cH,apU,nC];have e:∀s:Sp,decide (s.b≤s.a)=mZ s:=fun _=>rfl
  simp only [e];unfold Ha xF oW DH Y1;dsimp only;cases mZ (meet p.x q.x)<;>cases mZ (meet p.y q.y)<;>cases mZ (meet p.z q.z)<;>rfl
theorem ap1 (s:Sp) (lo hi:Int):oF s lo hi=lX s lo hi:=by
  unfold oF lX;simp only [Bool.cond_false_right]
theorem ap2 (b:Bx):((List.range 3).all fun j=>lX (b3 b j) (-1099511627776) 1099511627776)=decide (okB b):=by
  rw [Bool.eq_iff_iff,List.all_eq_true,decide_eq_true_eq];unfold okB;constructor
  · intro h i hi
    exact h i (List.mem_range.2 hi)
  · intro h i hi
    exact h i (List.mem_range.1 hi)
theorem Y8 {α β:Type} (g:α→Option β):∀(l:List α) (s:List β),l.foldl (fun s e=>s++(g e).toList) s=s++l.filterMap g
  |[],s=>by simp
  |a::l,s=>by
    rw [List.foldl_cons,Y8 g l];cases h:g a<;>simp [h]
theorem ap3 {l:List Df} (b:Bx) (hl:l.length≤9223372036854775807):C_ l b=some (qL l b):=by
  unfold C_ qL;rw [DK hl,aT];by_cases hc:ly l=0
  · have hlen:=Y5 hc
    rw [show(ly l !=0)=false by simp [hc],cond_false]
    rw [show(0:Int)=((0:Nat):Int) from rfl,AE 3 (fun j=>((j:Nat):Int)) (fun j=>lX (b3 b j) (-1099511627776) 1099511627776) ([]:List Df) (by
      intro j hj;unfold C9
      rw [decide_eq_true (show(j:Int)<3 by omega),cond_true,show aK [b.x,b.y,b.z] (j:Int)=some (b3 b j) by
        match j,hj with
        |0,_=>rfl
        |1,_=>rfl
        |2,_=>rfl,aT,ap1,cC (by omega)]
      cases lX (b3 b j) (-1099511627776) 1099511627776<;>rfl) (by rfl),ap2]
    by_cases hb:okB b
    · rw [if_pos ⟨hc,hb⟩,decide_eq_true hb]
      simp only [cond_true,aT,Sum.elim_inr]
      rw [xx l (fun s e=>s++(qK b e).toList) [] (fun s j=>(s,((j:Nat):Int))) id (fun j s=>s.length≤j) (by simp) (by
        intro j s hj hs;have:(qK b l[j]).toList.length≤1:=by cases qK b l[j]<;>simp
        rw [List.length_append];omega) (by
        intro s j hj hs;simp only [Ar];rw [eb hj,dw hj,cond_true,aT,ap0,cC (by omega)];simp only [cH];unfold qK;cases ht:xF l[j].b b with
        |false=>simp
        |true=>
          simp only [cond_true];rw [np (by simp;omega) (by simp;omega)];rfl) (by
        intro s hs;simp only [Ar];rw [eU];rfl),Y8]
      simp
    · rw [if_neg (fun h=>hb h.2),decide_eq_false hb]
      rfl
  · rw [show(ly l !=0)=true by simpa using hc,cond_true,if_neg (fun h=>hc h.1)]
def tE (s t:Sp):Prop:=max s.a t.a<min s.b t.b
instance(s t:Sp):Decidable (tE s t):=inferInstanceAs (Decidable (_<_))
def xH (p q:Bx):Prop:=tE p.x q.x∧tE p.y q.y∧tE p.z q.z
instance(p q:Bx):Decidable (xH p q):=inferInstanceAs (Decidable (_∧_))
def xI (s t:Sp):Sp:=⟨max s.a t.a -t.a,min s.b t.b -t.a⟩
def AM (p q:Bx):Bx:=⟨xI p.x q.x,xI p.y q.y,xI p.z q.z⟩
theorem ap4 (p q:Bx):xF p q=decide (xH p q):=by
  unfold xF oW DH;simp only [Bool.not_or,apZ];unfold xH tE;rw [Bool.eq_iff_iff];simp only [Bool.and_eq_true,decide_eq_true_eq];exact decide_eq_true_iff.symm
theorem NS {s t:Sp} (h:tE s t) (ht:lX t (-1099511627776) 1099511627776=true) (hs:-20000≤s.a∧s.b≤20000):DI (meet s t) t.a=xI s t:=by
  unfold tE at h;unfold lX at ht;simp only [Bool.and_eq_true,decide_eq_true_eq] at ht;unfold meet DI xI;rw [if_neg (by omega),Je (by dsimp only;omega) (by dsimp only;omega),Je (by dsimp only;omega) (by dsimp only;omega)]
theorem ap5 {b:Bx} {d:Df} (hb:okB b) (hd:k8 d=0):qK b d=if xH d.b b then some ⟨d.k,AM d.b b⟩ else none:=by
  have hv:=Y7 hd;unfold qK Ha;rw [ap4];by_cases h:xH d.b b
  · rw [decide_eq_true h,cond_true,if_pos h,cond_true]
    unfold tT DH AM;dsimp only;rw [NS h.1 (hb 0 (by omega)) (by omega),NS h.2.1 (hb 1 (by omega)) (by omega),NS h.2.2 (hb 2 (by omega)) (by omega)]
  · rw [decide_eq_false h,cond_false,if_neg h]
structure DL (b:Bx):Prop where
  x:-600≤b.x.a∧b.x.a<b.x.b∧b.x.b≤600
  y:-600≤b.y.a∧b.y.a<b.y.b∧b.y.b≤600
  z:0≤b.z.a∧b.z.a<b.z.b∧b.z.b≤20000
  w:b.x.b -b.x.a≤600∧b.y.b -b.y.a≤600
theorem ap6 {b:Bx} (hx:-1099511627776≤min b.x.a b.x.b∧max b.x.a b.x.b≤1099511627776) (hy:-1099511627776≤min b.y.a b.y.b∧max b.y.a b.y.b≤1099511627776) (hz:-1099511627776≤min b.z.a b.z.b∧max b.z.a b.z.b≤1099511627776):okB b:=by
  intro i hi
  match i,hi with
  |0,_=>simp [b3,lX,hx]
  |1,_=>simp [b3,lX,hy]
  |2,_=>simp [b3,lX,hz]
theorem DL.ok {b:Bx} (h:DL b):okB b:=ap6 (by have:=h.x;omega) (by have:=h.y;omega) (by have:=h.z;omega)
theorem ap7 {b:Bx} {d:Df} (hb:DL b) (hd:k8 d=0) (ht:xH d.b b):k8 ⟨d.k,AM d.b b⟩=0:=by
  have hv:=Y7 hd;obtain⟨h1,h2,h3⟩:=ht;obtain⟨x,y,z,w⟩:=hb;unfold tE at h1 h2 h3;apply apY;unfold AM xI;dsimp only;omega
theorem Y9 {l:List Df} {b:Bx} (hc:ly l=0) (hb:okB b) {d:Df} (h:d∈l.filterMap (qK b)):∃e∈l,xH e.b b∧d=⟨e.k,AM e.b b⟩:=by
  obtain⟨e,he,hd⟩:=List.mem_filterMap.1 h;rw [ap5 hb ((Hb.1 hc).2 e he)] at hd;split at hd
  · rename_i ht
    cases hd;exact⟨e,he,ht,rfl⟩
  · cases hd
theorem ap8 {l:List Df} {b:Bx} (hc:ly l=0) (hb:DL b):ly (l.filterMap (qK b))=0:=by
  refine Hb.2 ⟨Nat.le_trans (List.length_filterMap_le _ _) (Hb.1 hc).1,fun d hd=>?_⟩;obtain⟨e,he,ht,rfl⟩:=Y9 hc hb.ok hd;exact ap7 hb ((Hb.1 hc).2 e he) ht
def qM (n:Int) (low:Int) (high:Int):Bool:=
 (bif(decide (low≤n)) then(decide (n≤high)) else false)
theorem ap9 (n low high:Int):qM n low high=(decide (low≤n)&&decide (n≤high)):=by
 unfold qM;cases decide (low≤n)<;>rfl
def ov (a b:Sp):Prop:=max a.a b.a<min a.b b.b
instance(a b:Sp):Decidable (ov a b):=by unfold ov;infer_instance
theorem ap_ (a b:Sp):decide ((oV a b).b≤(oV a b).a)=!decide (ov a b):=by
 unfold oV ov;by_cases h:min a.b b.b≤max a.a b.a
 ·rw [decide_eq_true h,cond_true,decide_eq_false (p:=max a.a b.a<min a.b b.b) (by omega)];rfl
 ·rw [decide_eq_false h,cond_false,decide_eq_true (p:=max a.a b.a<min a.b b.b) (by omega)];exact decide_eq_false h
def ja (b:Bx) (d:Df):Bool:=decide (ov d.b.x b.x)&&(decide (ov d.b.y b.y)&&decide (ov d.b.z b.z))
theorem AN (d:Df) (b:Bx):AL d b=ja b d:=by
 unfold AL NM pL ja;simp only [jt,ap_];cases decide (ov d.b.x b.x)<;>cases decide (ov d.b.y b.y)<;>cases decide (ov d.b.z b.z)<;>rfl
def nM (b:Bx) (d:Df):Bool:=d.k==3&&ja b d
def vf (b:Bx) (bH:Int) (n:Int) (d:Df):Int:=if ja b d=true then n -bH else n
theorem NT {p:aQ} (hl:p.bQ.length≤1000) (n:Int):∃pr:Int×Bool,u4 p n=some pr∧(pr.2=false→pr.1=0)∧(pr.2=true→∃(j:Nat) (h1:j<p.bQ.length) (h2:j<p.da.length),p.bQ[j]=n∧p.da[j]=pr.1):=by
 unfold u4
 obtain⟨y,hy,hG⟩:=uj (step:=fun q:Int=>AK p n q) (fun q=>∃k:Nat,k≤p.bQ.length∧q=(k:Int)) (fun q=>p.bQ.length -q.toNat) (fun y=>y=.inr ()∨y=.inl (0,false)∨∃(j:Nat) (h1:j<p.bQ.length) (h2:j<p.da.length),p.bQ[j]=n∧y=.inl (p.da[j],true)) (by
  rintro q ⟨k,hk,rfl⟩;unfold AK;rcases Nat.lt_or_ge k p.bQ.length with cn|tS
  ·rw [eb cn,cond_true,dw cn,aT,cC (by omega)];by_cases h1:p.bQ[k]=n
   ·rw [show(p.bQ[k]==n)=true by simp [h1],cond_true]
    by_cases h2:p.da.length≤k
    ·rw [decide_eq_true (by omega)];exact .inr ⟨_,rfl,.inr (.inl rfl)⟩
    ·rw [decide_eq_false (by omega),cond_false,dw (by omega),aT];exact .inr ⟨_,rfl,.inr (.inr ⟨k,cn,by omega,h1,rfl⟩)⟩
   ·rw [show(p.bQ[k]==n)=false by simp [h1]]
    exact .inl ⟨_,rfl,⟨k+1,by omega,rfl⟩,by omega⟩
  ·have:k=p.bQ.length:=by omega
   subst this;rw [eU];exact .inr ⟨_,rfl,.inl rfl⟩) 0 ⟨0,by omega,rfl⟩
 rw [hy,aT];rcases hG with rfl|rfl|⟨j,h1,h2,h3,rfl⟩
 ·exact⟨(0,false),rfl,fun _=>rfl,fun h=>by simp at h⟩
 ·exact⟨(0,false),rfl,fun _=>rfl,fun h=>by simp at h⟩
 ·exact⟨(p.da[j],true),rfl,fun h=>by simp at h,fun _=>⟨j,h1,h2,h3,rfl⟩⟩
def fZ (d:List Df) (b:Bx) (bH pr:Int):Int:=d.foldl (vf b bH) pr
def DM (d:List Df) (b:Bx) (bH:Int) (n1:Int) (i:Int):Option ((Int×Int)⊕Int):=
 (bif(decide (i<((d.length:Nat):Int))) then(β (aK d i) (fun e=>(bif(AL e b) then some (κ ((U (n1 -bH)),U (i+1))) else some (κ (n1,U (i+1)))))) else some (ι n1))
theorem ap' {d:List Df} (hd:d.length≤1000) (b:Bx) {bH pr:Int} (hf:0≤bH∧bH≤1000000) (hp:0≤pr∧pr≤1000000):bR (fun q:Int×Int=>DM d b bH q.1 q.2) (pr,0)=some (fZ d b bH pr):=by
 have:=xx (step:=fun q:Int×Int=>DM d b bH q.1 q.2) d (vf b bH) pr (fun n j=>(n,(j:Int))) (fun n=>n) (fun j n=>-1000000*(j:Int)≤n∧n≤1000000) (by omega) (fun j n hj hn=>by
  unfold vf;split<;>omega) (fun n j hj hn=>by
  unfold DM vf;dsimp only;rw [eb hj,cond_true,dw hj,aT,AN,cC (by omega)];cases ja b d[j] with
  |true=>
   rw [cond_true,b_ (by omega) (by omega),if_pos rfl]
  |false=>
   rw [cond_false,if_neg (by simp)]) (fun n _=>by
  unfold DM;dsimp only;rw [eU];rfl)
 exact this
def AO (d:List Df) (b:Bx) (i:Int):Option (Int⊕(Bool⊕Unit)):=
 (bif(decide (i<((d.length:Nat):Int))) then(β (aK d i) (fun e=>(bif(e.k==3) then(β (aK d i) (fun e1=>(bif(AL e1 b) then some (ι (κ false)) else some (κ (U (i+1)))))) else some (κ (U (i+1)))))) else some (ι (ι ())))
theorem aqa {d:List Df} (hd:d.length≤1000) (b:Bx):bR (fun q:Int=>AO d b q) 0=some (bif d.any (nM b) then .inl false else .inr ()):=by
 have:=Dy (step:=fun q:Int=>AO d b q) d (nM b) (fun(u:Unit) _=>u) () (fun _ j=>(j:Int)) (.inl false) (fun _=>.inr ()) (fun _ _=>True) trivial (fun _ _ _ _ _=>trivial) (fun s j hj _ kz=>by
  unfold nM at kz;unfold AO;rw [eb hj,cond_true,dw hj,aT,aT,AN,cC (by omega)];cases h1:(d[j].k==3) with
  |false=>rfl
  |true=>
   rw [h1,Bool.true_and] at kz;rw [kz];rfl) (fun s j hj _ kz=>by
  unfold nM at kz;rw [Bool.and_eq_true] at kz;unfold AO;rw [eb hj,cond_true,dw hj,aT,aT,AN,kz.1,kz.2];rfl) (fun _ _=>by
  unfold AO;rw [eU];rfl)
 exact this
def mo (p:aQ) (n:Int):Int×Bool:=(u4 p n).getD (0,false)
theorem NU {p:aQ} (hl:p.bQ.length≤1000) (n:Int):u4 p n=some (mo p n):=by
 obtain⟨pr,h,_⟩:=NT hl n;unfold mo;rw [h];rfl
theorem Y_ {p:aQ} (hp:uZ p) (n:Int):0≤(mo p n).1∧(mo p n).1≤1000000:=by
 obtain⟨pr,h,h1,h2⟩:=NT (p:=p) (by have:=hp.l;omega) n;unfold mo;rw [h];show 0≤pr.1∧pr.1≤1000000
 cases hb:pr.2 with
 |false=>
  rw [h1 hb];omega
 |true=>
  obtain⟨j,_,h4,_,h5⟩:=h2 hb;rw [←h5];exact hp.c j h4
def nN (p:aQ) (X Y:Sp):Bool:=((U (X.b -X.a))==(iC p).1&&(U (Y.b -Y.a))==(iC p).2)||((U (X.b -X.a))==(iC p).2&&(U (Y.b -Y.a))==(iC p).1)
def acc (l:List aG) (d:List Df) (p:aQ) (b:Bx):Bool:=eI b.x&&(eI b.y&&(mn b.z (bJ l)&&((mo p (U (b.z.b -b.z.a))).2&&(nN p b.x b.y&&(!d.any (nM b)&&decide (wn b.x b.y b.z l 0 0≤p.dH))))))
def val (d:List Df) (p:aQ) (b:Bx) (bH:Int):Int:=max 0 (fZ d b bH (mo p (U (b.z.b -b.z.a))).1)
structure Valid (l:List aG) (d:List Df) (p:aQ):Prop where
 oX:kI l
 lc:jj l=some 0
 dl:d.length≤64
 prod:uZ p
def NV (l:List aG) (d:List Df) (p:aQ) (b:Bx):Option Bool:=
 (β (ND l b) (fun wv=>(bif(!wv) then some false else(cH (iC p) (fun gv=>(β (u4 p (U (b.z.b -b.z.a))) (fun pv=>(β ((bif(!pv.2) then some (κ false) else(bif((U (b.x.b -b.x.a))==gv.1) then(bif(!((U (b.y.b -b.y.a))==gv.2)) then(bif((U (b.x.b -b.x.a))==gv.2) then(bif(!((U (b.y.b -b.y.a))==gv.1)) then some (κ false) else some (ι ())) else some (κ false)) else some (ι ())) else(bif((U (b.x.b -b.x.a))==gv.2) then(bif(!((U (b.y.b -b.y.a))==gv.1)) then some (κ false) else some (ι ())) else some (κ false)))):Option (Bool⊕Unit)) (Sum.elim (fun q=>some q) (fun _=>(β ((bR (fun q=>AO d b q) 0):Option (Bool⊕Unit)) (Sum.elim (fun q=>some q) (fun _=>(β (NC l b) (fun sV=>some (decide (sV≤p.dH)))))))))))))))))
theorem aqb {l:List aG} {d:List Df} {p:aQ} (hv:Valid l d p) (b:Bx):NV l d p b=some (acc l d p b):=by
 have hd:=hv.dl;have vk:=hv.prod.l;unfold NV acc;rw [apH (length_eq hv.oX hv.lc),aT,jt,NU (by omega),aT];cases hx:eI b.x with
 |false=>rfl
 |true=>
  cases hy:eI b.y with
  |false=>rfl
  |true=>
   cases hz:mn b.z (bJ l) with
   |false=>rfl
   |true=>
    have hr:nK b.x b.y:=⟨pM hx,pM hy⟩;rw [aqa (by omega),apF hv.oX hv.lc hr (DE hz)];simp only [Bool.true_and,Bool.not_true,cond_false];unfold nN;cases(mo p (U (b.z.b -b.z.a))).2 with
    |false=>rfl
    |true=>
     cases(U (b.x.b -b.x.a))==(iC p).1<;>cases(U (b.y.b -b.y.a))==(iC p).2<;>cases(U (b.x.b -b.x.a))==(iC p).2<;>cases(U (b.y.b -b.y.a))==(iC p).1<;>cases d.any (nM b)<;>rfl
def NW (d:List Df) (p:aQ) (b:Bx) (bH:Int):Option Int:=
 (β (u4 p (U (b.z.b -b.z.a))) (fun pv=>(β ((bR (fun q=>DM d b bH q.1 q.2) (pv.1,0)):Option Int) (fun n=>some (max 0 n)))))
theorem aqc {d:List Df} {p:aQ} (hd:d.length≤1000) (hp:uZ p) (b:Bx) {bH:Int} (hf:0≤bH∧bH≤1000000):NW d p b bH=some (val d p b bH):=by
 unfold NW val;rw [NU (by have:=hp.l;omega),aT,ap' hd b hf (Y_ hp _)];rfl
def fl (b:Bx) (acc:List Df) (e:Df):List Df:=if ja b e=true then acc++[e] else acc
theorem Za (b:Bx):∀(d acc:List Df),d.foldl (fl b) acc=acc++d.filter (ja b)
 |[],acc=>by simp
 |e::d,acc=>by
  rw [List.foldl_cons,Za b d];unfold fl;cases h:ja b e with
  |true=>simp [h]
  |false=>simp [h]
theorem Zb {X Y z:Sp} {n:Int} (h:0≤z.a∧z.a<z.b∧z.b≤n) {e:Df} (ht:ja ⟨X,Y,z⟩ e=true):ja ⟨X,Y,⟨0,n⟩⟩ e=true:=by
 unfold ja at ht⊢;simp only [Bool.and_eq_true,decide_eq_true_eq] at ht⊢;refine⟨ht.1,ht.2.1,?_⟩;have:=ht.2.2;unfold ov at this⊢;dsimp only at this⊢;omega
theorem NX {X Y z:Sp} {n:Int} (h:0≤z.a∧z.a<z.b∧z.b≤n):∀(d:List Df),(d.filter (ja ⟨X,Y,⟨0,n⟩⟩)).any (nM ⟨X,Y,z⟩)=d.any (nM ⟨X,Y,z⟩)
 |[]=>rfl
 |e::d=>by
  rw [List.any_cons];cases hB:ja ⟨X,Y,⟨0,n⟩⟩ e with
  |true=>rw [List.filter_cons_of_pos hB,List.any_cons,NX h d]
  |false=>
   rw [List.filter_cons_of_neg (by simp [hB]),NX h d]
   have:nM ⟨X,Y,z⟩ e=false:=by
    unfold nM;cases ht:ja ⟨X,Y,z⟩ e with
    |false=>simp
    |true=>
     rw [Zb h ht] at hB;exact absurd hB (by simp)
   rw [this];rfl
theorem Zd {X Y z:Sp} {n:Int} (h:0≤z.a∧z.a<z.b∧z.b≤n) (bH:Int):∀(d:List Df) (pr:Int),fZ (d.filter (ja ⟨X,Y,⟨0,n⟩⟩)) ⟨X,Y,z⟩ bH pr=fZ d ⟨X,Y,z⟩ bH pr
 |[],pr=>rfl
 |e::d,pr=>by
  have ih:=fun q=>Zd h bH d q (X:=X) (Y:=Y)
  unfold fZ at ih⊢;rw [List.foldl_cons];cases hB:ja ⟨X,Y,⟨0,n⟩⟩ e with
  |true=>rw [List.filter_cons_of_pos hB,List.foldl_cons,ih]
  |false=>
   rw [List.filter_cons_of_neg (by simp [hB]),ih]
   have:vf ⟨X,Y,z⟩ bH pr e=pr:=by
    unfold vf;cases ht:ja ⟨X,Y,z⟩ e with
    |false=>simp
    |true=>
     rw [Zb h ht] at hB;exact absurd hB (by simp)
   rw [this]
def view (l:List aG) (d:List Df) (p:aQ) (vr:aH):eX:=⟨p,vr,bJ l,lV vr.X vr.Y l 0,d.filter (ja ⟨vr.X,vr.Y,⟨0,bJ l⟩⟩)⟩
theorem aqd {l:List aG} {d:List Df} {p:aQ} (hv:Valid l d p) {vr:aH} (hx:eI vr.X=true) (hy:eI vr.Y=true) (hg:nN p vr.X vr.Y=true) (z:Sp) {bH:Int} (hf:0≤bH∧bH≤1000000):xe (view l d p vr) z bH=some (bif acc l d p ⟨vr.X,vr.Y,z⟩ then(val d p ⟨vr.X,vr.Y,z⟩ bH,true) else(0,false)):=by
 have hd:=hv.dl;have vk:=hv.prod.l;unfold xe acc;dsimp only;rw [hx,hy,hg,YR,show(view l d p vr).length=bJ l from rfl,show(view l d p vr).product=p from rfl,show(view l d p vr).we=lV vr.X vr.Y l 0 from rfl]
 cases hz:mn z (bJ l) with
 |false=>rfl
 |true=>
  have jv:=DE hz;rw [show(!true)=false from rfl,cond_false,apP,NU (by omega),aT]
  have e2:=YN (l:=lV vr.X vr.Y l 0) (by rw [DC];have:=hv.oX.len;omega) z;rw [Ny] at e2;rw [e2];have hpb:=Y_ hv.prod (U (z.b -z.a));cases hp2:(mo p (U (z.b -z.a))).2 with
  |false=>rfl
  |true=>
   rw [show(!true)=false from rfl,cond_false,aT,jt,show uH (view l d p vr) z=⟨vr.X,vr.Y,z⟩ from rfl]
   by_cases hw:p.dH<wn vr.X vr.Y z l 0 0
   ·rw [decide_eq_true hw,decide_eq_false (p:=wn _ _ _ _ _ _≤_) (by omega)];simp
   ·rw [decide_eq_false hw,decide_eq_true (p:=wn _ _ _ _ _ _≤_) (by omega),cond_false];have Iq:(d.filter (ja ⟨vr.X,vr.Y,⟨0,bJ l⟩⟩)).length≤d.length:=List.length_filter_le ..
    have mi:=Dy (step:=fun q:Int×Int=>rH (view l d p vr) bH ⟨vr.X,vr.Y,z⟩ q.1 q.2) (d.filter (ja ⟨vr.X,vr.Y,⟨0,bJ l⟩⟩)) (nM ⟨vr.X,vr.Y,z⟩) (vf ⟨vr.X,vr.Y,z⟩ bH) (mo p (U (z.b -z.a))).1 (fun n j=>(n,(j:Int))) (.inl (0,false)) (fun n=>.inr n) (fun j n=>-1000000*(j:Int)≤n∧n≤1000000) (by omega) (fun j n hj _ hn=>by
     unfold vf;split<;>omega) (fun n j hj hn kz=>by
     unfold nM at kz;unfold rH vf;rw [show(view l d p vr).mc=d.filter (ja ⟨vr.X,vr.Y,⟨0,bJ l⟩⟩) from rfl]
     dsimp only;rw [eb hj,cond_true,dw hj,aT,NN,AN,cC (by omega)];cases ht:ja ⟨vr.X,vr.Y,z⟩ (d.filter (ja ⟨vr.X,vr.Y,⟨0,bJ l⟩⟩))[j] with
     |true=>
      rw [ht,Bool.and_true] at kz;rw [kz,b_ (by omega) (by omega),if_pos rfl];rfl
     |false=>
      rw [if_neg (by simp)];rfl) (fun n j hj hn kz=>by
     unfold nM at kz;rw [Bool.and_eq_true] at kz;unfold rH;rw [show(view l d p vr).mc=d.filter (ja ⟨vr.X,vr.Y,⟨0,bJ l⟩⟩) from rfl]
     dsimp only;rw [eb hj,cond_true,dw hj,aT,NN,AN,kz.1,kz.2];rfl) (fun n _=>by
     unfold rH;rw [show(view l d p vr).mc=d.filter (ja ⟨vr.X,vr.Y,⟨0,bJ l⟩⟩) from rfl]
     dsimp only;rw [eU];rfl)
    rw [show((mo p (U (z.b -z.a))).1,((0:Nat):Int))=((mo p (U (z.b -z.a))).1,(0:Int)) from rfl] at mi
    rw [mi,aT,NX jv];have FF:=Zd jv bH d (mo p (U (z.b -z.a))).1 (X:=vr.X) (Y:=vr.Y);unfold fZ at FF;rw [FF];cases d.any (nM ⟨vr.X,vr.Y,z⟩) with
    |true=>rfl
    |false=>
     show some (max _ 0,true)=some (val d p ⟨vr.X,vr.Y,z⟩ bH,true)
     unfold val fZ;rw [Int.max_comm]
def DN (e:Df):Bool:=!(bif decide (e.k<1) then true else decide (6<e.k))&&(!(pL e.b)&&xz e.b)
theorem NY (d:List Df):∃c,uW d=some c∧(c=0↔d.length≤64∧∀e∈d,DN e=true):=by
 unfold uW;by_cases h1:64<d.length
 ·rw [decide_eq_true (by omega)];exact⟨4,rfl,by omega⟩
 ·rw [decide_eq_false (by omega),cond_false]
  obtain⟨y,hy,hG⟩:=uj (step:=fun q:Int=>rT d q) (fun q=>∃k:Nat,k≤d.length∧q=(k:Int)∧∀(j:Nat) (hj:j<d.length),j<k→DN d[j]=true) (fun q=>d.length -q.toNat) (fun y=>(∃c,y=.inl c∧c≠0∧∃e∈d,DN e=false)∨(y=.inr ()∧∀e∈d,DN e=true)) (by
   rintro q ⟨k,hk,rfl,ha⟩;unfold rT;rcases Nat.lt_or_ge k d.length with cn|tS
   ·rw [eb cn,cond_true,dw cn];simp only [aT];have gG:=List.getElem_mem cn;have hg:DN d[k]=(!(bif decide (d[k].k<1) then true else decide (6<d[k].k))&&(!(pL d[k].b)&&xz d[k].b)):=rfl
    have hv:(bif decide (d[k].k<1) then some true else some (decide (6<d[k].k)))=some (bif decide (d[k].k<1) then true else decide (6<d[k].k)):=by
     cases decide (d[k].k<1)<;>rfl
    rw [hv,aT,cC (by omega)];cases hA:(bif decide (d[k].k<1) then true else decide (6<d[k].k)) with
    |true=>
     rw [hA] at hg;exact .inr ⟨_,rfl,.inl ⟨_,rfl,by omega,_,gG,hg⟩⟩
    |false=>
     rw [hA] at hg;cases hB:pL d[k].b with
     |true=>
      rw [hB] at hg;exact .inr ⟨_,rfl,.inl ⟨_,rfl,by omega,_,gG,hg⟩⟩
     |false=>
      rw [hB] at hg;cases hC:xz d[k].b with
      |false=>
       rw [hC] at hg;exact .inr ⟨_,rfl,.inl ⟨_,rfl,by omega,_,gG,hg⟩⟩
      |true=>
       rw [hC] at hg;refine .inl ⟨_,rfl,⟨k+1,by omega,rfl,fun j hj DG=>?_⟩,by omega⟩;rcases Nat.lt_or_ge j k with h5|h5
       ·exact ha j hj h5
       ·have:j=k:=by omega
        subst this;exact hg
   ·have:k=d.length:=by omega
    subst this;rw [eU];refine .inr ⟨_,rfl,.inr ⟨rfl,fun e he=>?_⟩⟩;obtain⟨j,hj,rfl⟩:=List.getElem_of_mem he;exact ha j hj hj) 0 ⟨0,by omega,rfl,fun j _ h=>by omega⟩
  rw [hy,aT];rcases hG with⟨c,rfl,hc,e,he,hb⟩|⟨rfl,fm⟩
  ·refine⟨c,rfl,fun h=>absurd h hc,fun h=>?_⟩;rw [h.2 e he] at hb;exact absurd hb (by simp)
  ·exact⟨0,rfl,fun _=>⟨by omega,fm⟩,fun _=>rfl⟩
def mq (l:List aG) (d:List Df) (p:aQ):Bool:=(jj l==some 0)&&((uW d==some 0)&&(u0 [p]==some 0))
theorem Zf {l:List aG} (hl:lW l) {d:List Df} {p:aQ} (h:mq l d p=true):Valid l d p:=by
 unfold mq at h;simp only [Bool.and_eq_true,beq_iff_eq] at h;obtain⟨h1,h2,h3⟩:=h;obtain⟨c1,e1,Hc⟩:=Dz l hl;obtain⟨c2,e2,Hd⟩:=NY d;obtain⟨c3,_,e3,He⟩:=NL p;rw [h1] at e1;rw [h2] at e2;rw [h3] at e3;cases e1;cases e2;cases e3;exact⟨Hc rfl,h1,(Hd.1 rfl).1,He rfl⟩
def NZ (l:List aG) (d:List Df) (p:aQ):Option Bool:=
 (β (jj l) (fun cv=>(bif(cv==0) then(β (uW d) (fun cA=>(bif(cA==0) then(β (u0 ([p])) (fun eC=>some (eC==0))) else some false))) else some false)))
theorem aqf {l:List aG} (hl:lW l) (d:List Df) (p:aQ):NZ l d p=some (mq l d p):=by
 obtain⟨c1,e1,Hc⟩:=Dz l hl;obtain⟨c2,e2,Hd⟩:=NY d;obtain⟨c3,_,e3,He⟩:=NL p;unfold NZ mq;rw [e1,e2,e3];simp only [aT];have hs:∀c:Int,(some c==some (0:Int))=(c==0):=fun c=>rfl
 rw [hs,hs,hs];cases(c1==0)<;>cases(c2==0)<;>rfl
def zv:eX:=⟨⟨⟨#[]⟩,0,0,0,0,[],[]⟩,⟨⟨0,0⟩,⟨0,0⟩⟩,0,[],[]⟩
theorem look_eq {l:List aG} (hl:lW l) (d:List Df) (p:aQ) (vr:aH):xc l d p vr=some (bif mq l d p&&(eI vr.X&&(eI vr.Y&&nN p vr.X vr.Y)) then(view l d p vr,true) else(zv,false)):=by
 obtain⟨c1,e1,Hc⟩:=Dz l hl;obtain⟨c2,e2,Hd⟩:=NY d;obtain⟨c3,e4,e3,He⟩:=NL p;unfold xc
 have hvd:mq l d p=((c1==0)&&((c2==0)&&(c3==0))):=by
  unfold mq;rw [e1,e2,e3];rfl
 rw [uV,e1,aT,apz,e2,aT,e4,aT,YI,aT,jt,GZ,hvd];by_cases h1:c1=0
 ·by_cases h2:c2=0
  ·by_cases h3:c3=0
   ·subst h1;subst h2;subst h3;have hv:Valid l d p:=⟨Hc rfl,e1,(Hd.1 rfl).1,He rfl⟩;have Zg:=hv.dl;rw [show((0:Int)!=0)=false from rfl,cond_false,cond_false,cond_false,show((0:Int)==0)=true from rfl]
    cases hx:eI vr.X with
    |false=>rfl
    |true=>
     cases hy:eI vr.Y with
     |false=>rfl
     |true=>
      have hr:nK vr.X vr.Y:=⟨pM hx,pM hy⟩;rw [show(!(true&&true))=false from rfl,cond_false]
      have hm:((bif(!((U (vr.X.b -vr.X.a))==(iC p).1&&((U (vr.Y.b -vr.Y.a))==(iC p).2&&true))) then(bif(!((U (vr.X.b -vr.X.a))==(iC p).2&&((U (vr.Y.b -vr.Y.a))==(iC p).1&&true))) then some (κ ((⟨(⟨(⟨#[]⟩:ByteArray),0,0,0,0,[],[]⟩:aQ),(⟨(⟨0,0⟩:Sp),(⟨0,0⟩:Sp)⟩:aH),0,[],[]⟩:eX),false)) else some (ι ())) else some (ι ())):Option ((eX×Bool)⊕Unit))=some (bif nN p vr.X vr.Y then .inr () else .inl (zv,false)):=by
       unfold nN;cases(U (vr.X.b -vr.X.a))==(iC p).1<;>cases(U (vr.Y.b -vr.Y.a))==(iC p).2<;>cases(U (vr.X.b -vr.X.a))==(iC p).2<;>cases(U (vr.Y.b -vr.Y.a))==(iC p).1<;>rfl
      rw [hm,aT];cases hg:nN p vr.X vr.Y with
      |false=>rfl
      |true=>
       rw [cond_true,Sum.elim_inr,Ns,length_eq hv.oX e1,aT,YM hv.oX hr,aT,jt,show uH (⟨p,vr,bJ l,lV vr.X vr.Y l 0,[]⟩:eX) (⟨0,bJ l⟩:Sp)=⟨vr.X,vr.Y,⟨0,bJ l⟩⟩ from rfl]
       have mi:=xx (step:=fun q:Int×List Df=>s7 d ⟨vr.X,vr.Y,⟨0,bJ l⟩⟩ q.1 q.2) d (fl ⟨vr.X,vr.Y,⟨0,bJ l⟩⟩) [] (fun a j=>((j:Int),a)) (fun a=>a) (fun j a=>a.length≤j) (by simp) (fun j a hj ha=>by
        unfold fl;split
        ·simp;omega
        ·omega) (fun a j hj ha=>by
        unfold s7 fl;dsimp only;rw [eb hj,cond_true,dw hj,aT,NN,AN,cC (by omega)];cases ja ⟨vr.X,vr.Y,⟨0,bJ l⟩⟩ d[j] with
        |true=>
         rw [cond_true,np (by simp;omega) (by simp;omega),aT,if_pos rfl]
        |false=>rw [cond_false,if_neg (by simp)]) (fun a _=>by
        unfold s7;dsimp only;rw [eU];rfl)
       rw [Za,List.nil_append] at mi;rw [show((0:Nat):Int)=0 from rfl] at mi
       rw [mi,aT];rfl
   ·rw [kc h3,show(c3==0)=false by simp [h3],Bool.and_false,Bool.and_false]
    subst h1;subst h2;rfl
  ·rw [kc h2,show(c2==0)=false by simp [h2],Bool.false_and,Bool.and_false]
   subst h1;rfl
 ·rw [kc h1,show(c1==0)=false by simp [h1]]
  rfl
theorem aqh (n:Int):uC n=qM n 0 1000000:=rfl
theorem xJ {n low high:Int} (h:qM n low high=true):low≤n∧n≤high:=by
 rw [ap9,Bool.and_eq_true,decide_eq_true_eq,decide_eq_true_eq] at h;exact h
theorem aqi {l:List aG} {d:List Df} {p:aQ} {b:Bx} (h:(eI b.x&&(eI b.y&&nN p b.x b.y))=false):acc l d p b=false:=by
 unfold acc;cases hx:eI b.x with
 |false=>rfl
 |true=>
  cases hy:eI b.y with
  |false=>rfl
  |true=>
   rw [hx,hy] at h;have hg:nN p b.x b.y=false:=h;rw [hg];cases mn b.z (bJ l)<;>cases(mo p (U (b.z.b -b.z.a))).2<;>rfl
def Hf (p:aQ) (step:Int) (n:Nat):List Sp:=(List.range n).flatMap fun(k:Nat)=>p.bQ.map fun e=>(⟨(k:Int)*step,(k:Int)*step+e⟩:Sp)
theorem aqj (p:aQ) (step:Int) (n:Nat):Hf p step (n+1)=Hf p step n++p.bQ.map fun e=>(⟨(n:Int)*step,(n:Int)*step+e⟩:Sp):=by
 unfold Hf;rw [List.range_succ,List.flatMap_append];simp
def bs (l:List aG) (d:List Df) (p:aQ) (vr:aH) (bH:Int) (s:Int×Bool×Sp) (z:Sp):Int×Bool×Sp:=
 bif acc l d p ⟨vr.X,vr.Y,z⟩ then(bif !s.2.1||decide (s.1<val d p ⟨vr.X,vr.Y,z⟩ bH) then(val d p ⟨vr.X,vr.Y,z⟩ bH,true,z) else s) else s
theorem aqk {l:List aG} {d:List Df} {p:aQ} (hv:Valid l d p) {vr:aH} (hx:eI vr.X=true) (hy:eI vr.Y=true) (hg:nN p vr.X vr.Y=true) {bH:Int} (hf:0≤bH∧bH≤1000000) {a:Int} (ha:0≤a∧a≤20000) (s:Int×Bool×Sp):
  bR (fun q:Int×Bool×Int×Sp=>rI p bH (view l d p vr,true) a q.1 q.2.1 q.2.2.1 q.2.2.2) (s.1,s.2.1,0,s.2.2)=some ((p.bQ.map fun e=>(⟨a,a+e⟩:Sp)).foldl (bs l d p vr bH) s):=by
 have vk:=hv.prod.l;rw [List.foldl_map]
 have:=GU (step:=fun q:Int×Bool×Int×Sp=>rI p bH (view l d p vr,true) a q.1 q.2.1 q.2.2.1 q.2.2.2) p.bQ (fun s e=>bs l d p vr bH s ⟨a,a+e⟩) s (fun s j=>(s.1,s.2.1,(j:Int),s.2.2)) (fun s=>s) (fun s j hj=>by
  have hr:=hv.prod.r j hj;unfold rI bs;dsimp only;rw [eb hj,cond_true,dw hj,aT,b_ (n:=a+_) (by omega) (by omega),aqd hv hx hy hg _ hf,aT,cC (by omega)];cases acc l d p ⟨vr.X,vr.Y,⟨a,a+p.bQ[j]⟩⟩ with
  |false=>rfl
  |true=>
   cases h1:s.2.1 with
   |false=>rfl
   |true=>
    cases h2:decide (s.1<val d p ⟨vr.X,vr.Y,⟨a,a+p.bQ[j]⟩⟩ bH) with
    |false=>simp [h2,h1]
    |true=>simp [h2]) (fun s=>by
  unfold rI;dsimp only;rw [eU];rfl)
 exact this
def DO (l:List aG) (d:List Df) (p:aQ) (vr:aH) (bH:Int) (vz:Int) (jQ:Int) (j':Bool) (i:Int) (kV:Sp):Option ((Int×Bool×Int×Sp)⊕(Int×Bool×Sp)):=
 (bif(decide (i<((p.bQ.length:Nat):Int))) then(β (aK p.bQ i) (fun e=>(β (NV l d p (⟨vr.X,vr.Y,(⟨vz,U (vz+e)⟩:Sp)⟩:Bx)) (fun av=>(bif(!av) then some (κ (jQ,j',U (i+1),kV)) else(β (NW d p (⟨vr.X,vr.Y,(⟨vz,U (vz+e)⟩:Sp)⟩:Bx) bH) (fun aB=>(bif(!j') then some (κ (aB,true,U (i+1),(⟨vz,U (vz+e)⟩:Sp))) else(bif(decide (jQ<aB)) then some (κ (aB,true,U (i+1),(⟨vz,U (vz+e)⟩:Sp))) else some (κ (jQ,j',U (i+1),kV))))))))))) else some (ι (jQ,j',kV)))
theorem aql {l:List aG} {d:List Df} {p:aQ} (hv:Valid l d p) (vr:aH) {bH:Int} (hf:0≤bH∧bH≤1000000) {a:Int} (ha:0≤a∧a≤20000) (s:Int×Bool×Sp):
  bR (fun q:Int×Bool×Int×Sp=>DO l d p vr bH a q.1 q.2.1 q.2.2.1 q.2.2.2) (s.1,s.2.1,0,s.2.2)=some ((p.bQ.map fun e=>(⟨a,a+e⟩:Sp)).foldl (bs l d p vr bH) s):=by
 have vk:=hv.prod.l;have Zg:=hv.dl;rw [List.foldl_map]
 have:=GU (step:=fun q:Int×Bool×Int×Sp=>DO l d p vr bH a q.1 q.2.1 q.2.2.1 q.2.2.2) p.bQ (fun s e=>bs l d p vr bH s ⟨a,a+e⟩) s (fun s j=>(s.1,s.2.1,(j:Int),s.2.2)) (fun s=>s) (fun s j hj=>by
  have hr:=hv.prod.r j hj;unfold DO bs;dsimp only;rw [eb hj,cond_true,dw hj,aT,b_ (n:=a+_) (by omega) (by omega),aqb hv,aT,cC (by omega),aqc (by omega) hv.prod _ hf,aT];cases acc l d p ⟨vr.X,vr.Y,⟨a,a+p.bQ[j]⟩⟩ with
  |false=>rfl
  |true=>
   cases h1:s.2.1 with
   |false=>rfl
   |true=>
    cases h2:decide (s.1<val d p ⟨vr.X,vr.Y,⟨a,a+p.bQ[j]⟩⟩ bH) with
    |false=>simp [h2,h1]
    |true=>simp [h2]) (fun s=>by
  unfold DO;dsimp only;rw [eU];rfl)
 exact this
theorem rounds {L step:Int} (hL:0≤L) (hs:1≤step):∃n:Nat,(∀j:Nat,j<n→(j:Int)*step<L)∧L≤(n:Int)*step:=by
 refine⟨((L+step -1)/step).toNat,fun j hj=>?_,?_⟩
 ·have h1:(j:Int)+1≤(L+step -1)/step:=by omega
  have h2:=Int.mul_le_of_le_ediv (by omega) h1;rw [Int.add_mul] at h2;omega
 ·have h0:0≤(L+step -1)/step:=Int.ediv_nonneg (by omega) (by omega);rw [Int.toNat_of_nonneg h0];have:=Int.lt_ediv_add_one_mul_self (L+step -1) (show 0<step by omega)
  rw [Int.add_mul] at this;omega
theorem Hg {l:List aG} (h:kI l):0≤bJ l∧bJ l≤20000:=by
 have:=pN h 0 (by omega);have:=h.ml;simp [bJ] at*
 omega
def ke (l:List aG) (d:List Df) (p:aQ) (vr:aH) (step bH:Int) (n:Nat):Int×Bool×Sp:=(Hf p step n).foldl (bs l d p vr bH) (0,false,⟨0,0⟩)
theorem Zh (l:List aG) (d:List Df) (p:aQ) (vr:aH) (step bH:Int) (n:Nat):ke l d p vr step bH (n+1)=(p.bQ.map fun e=>(⟨(n:Int)*step,(n:Int)*step+e⟩:Sp)).foldl (bs l d p vr bH) (ke l d p vr step bH n):=by
 unfold ke;rw [aqj,List.foldl_append]
theorem aqm {l:List aG} {d:List Df} {p:aQ} (hv:Valid l d p) {vr:aH} (hx:eI vr.X=true) (hy:eI vr.Y=true) (hg:nN p vr.X vr.Y=true) {bH step:Int} (hf:0≤bH∧bH≤1000000) (hs:1≤step∧step≤20000) {n:Nat} (h1:∀j:Nat,j<n→(j:Int)*step<bJ l) (h2:bJ l≤(n:Int)*step):
  bR (fun q:Int×Bool×Int×Sp=>rJ p step bH (view l d p vr,true) q.1 q.2.1 q.2.2.1 q.2.2.2) (0,false,0,⟨0,0⟩)=some (ke l d p vr step bH n):=by
 have vH:=Hg hv.oX
 have:=kZ (step:=fun q:Int×Bool×Int×Sp=>rJ p step bH (view l d p vr,true) q.1 q.2.1 q.2.2.1 q.2.2.2) (fun j=>((ke l d p vr step bH j).1,(ke l d p vr step bH j).2.1,(j:Int)*step,(ke l d p vr step bH j).2.2)) n (y:=ke l d p vr step bH n) (fun j hj=>by
  have h3:=h1 j hj;have h4:0≤(j:Int)*step:=Int.mul_nonneg (by omega) (by omega);unfold rJ;dsimp only;rw [show(view l d p vr).length=bJ l from rfl,decide_eq_true h3,cond_true,aqk hv hx hy hg hf (by omega) (ke l d p vr step bH j),aT,←Zh,b_ (by omega) (by omega),show((j+1:Nat):Int)*step=(j:Int)*step+step by rw [Int.natCast_add,Int.add_mul];omega]) (by
  unfold rJ;dsimp only;rw [show(view l d p vr).length=bJ l from rfl,decide_eq_false (by omega)]
  rfl)
 rw [show((0:Nat):Int)*step=0 by simp] at this
 exact this
def DP (l:List aG) (d:List Df) (p:aQ) (vr:aH) (step:Int) (bH:Int) (f_:Int) (mS:Bool) (vz:Int) (mT:Sp):Option ((Int×Bool×Int×Sp)⊕(Int×Bool×Sp)):=
 (β (rm l) (fun lv=>(bif(decide (vz<lv)) then(β ((bR (fun q=>DO l d p vr bH vz q.1 q.2.1 q.2.2.1 q.2.2.2) (f_,mS,0,mT)):Option (Int×Bool×Sp)) (fun w2=>some (κ (w2.1,w2.2.1,U (vz+step),w2.2.2)))) else some (ι (f_,mS,mT)))))
theorem aqn {l:List aG} {d:List Df} {p:aQ} (hv:Valid l d p) (vr:aH) {bH step:Int} (hf:0≤bH∧bH≤1000000) (hs:1≤step∧step≤20000) {n:Nat} (h1:∀j:Nat,j<n→(j:Int)*step<bJ l) (h2:bJ l≤(n:Int)*step):
  bR (fun q:Int×Bool×Int×Sp=>DP l d p vr step bH q.1 q.2.1 q.2.2.1 q.2.2.2) (0,false,0,⟨0,0⟩)=some (ke l d p vr step bH n):=by
 have vH:=Hg hv.oX
 have:=kZ (step:=fun q:Int×Bool×Int×Sp=>DP l d p vr step bH q.1 q.2.1 q.2.2.1 q.2.2.2) (fun j=>((ke l d p vr step bH j).1,(ke l d p vr step bH j).2.1,(j:Int)*step,(ke l d p vr step bH j).2.2)) n (y:=ke l d p vr step bH n) (fun j hj=>by
  have h3:=h1 j hj;have h4:0≤(j:Int)*step:=Int.mul_nonneg (by omega) (by omega);unfold DP;dsimp only;rw [length_eq hv.oX hv.lc,aT,decide_eq_true h3,cond_true,aql hv vr hf (by omega) (ke l d p vr step bH j),aT,←Zh,b_ (by omega) (by omega),show((j+1:Nat):Int)*step=(j:Int)*step+step by rw [Int.natCast_add,Int.add_mul];omega]) (by
  unfold DP;dsimp only;rw [length_eq hv.oX hv.lc,aT,decide_eq_false (by omega)];rfl)
 rw [show((0:Nat):Int)*step=0 by simp] at this
 exact this
theorem Zi {l:List aG} {d:List Df} {p:aQ} {vr:aH} {bH:Int} (h:(eI vr.X&&(eI vr.Y&&nN p vr.X vr.Y))=false):∀(c:List Sp) (s:Int×Bool×Sp),c.foldl (bs l d p vr bH) s=s
 |[],s=>rfl
 |z::c,s=>by
  have:bs l d p vr bH s z=s:=by
   unfold bs;rw [aqi (b:=⟨vr.X,vr.Y,z⟩) h];rfl
  rw [List.foldl_cons,this,Zi h c]
def N0 (l:List aG) (d:List Df) (p:aQ) (vr:aH) (step bH:Int) (o:Sp×Int×Bool):Prop:=
 ((qM step 1 20000&&(qM bH 0 1000000&&mq l d p))=false∧o=(⟨0,0⟩,0,false))∨
 (Valid l d p∧(1≤step∧step≤20000)∧(0≤bH∧bH≤1000000)∧mq l d p=true∧∃n:Nat,(∀j:Nat,j<n→(j:Int)*step<bJ l)∧bJ l≤(n:Int)*step∧o=((ke l d p vr step bH n).2.2,(ke l d p vr step bH n).1,(ke l d p vr step bH n).2.1))
def Zj (l:List aG) (d:List Df) (p:aQ) (vr:aH) (step:Int) (bH:Int):Option (Sp×Int×Bool):=
 (bif(!(qM step 1 20000)) then some ((⟨0,0⟩:Sp),0,false) else(bif(!(qM bH 0 1000000)) then some ((⟨0,0⟩:Sp),0,false) else(β (NZ l d p) (fun vv=>(bif(!vv) then some ((⟨0,0⟩:Sp),0,false) else(β ((bR (fun q=>DP l d p vr step bH q.1 q.2.1 q.2.2.1 q.2.2.2) (0,false,0,(⟨0,0⟩:Sp))):Option (Int×Bool×Sp)) (fun w3=>some (w3.2.2,w3.1,w3.2.1))))))))
theorem aqo {l:List aG} (hl:lW l) (d:List Df) (p:aQ) (vr:aH) (step bH:Int):∃o,xf l d p vr step bH=some o∧Zj l d p vr step bH=some o∧N0 l d p vr step bH o:=by
 unfold xf Zj;rw [show wQ step=qM step 1 20000 from rfl,aqh,look_eq hl,aqf hl]
 unfold N0;cases jG:qM step 1 20000 with
 |false=>exact⟨_,rfl,rfl,.inl ⟨rfl,rfl⟩⟩
 |true=>
  cases hf:qM bH 0 1000000 with
  |false=>exact⟨_,rfl,rfl,.inl ⟨rfl,rfl⟩⟩
  |true=>
   simp only [Bool.not_true,cond_false,aT];cases hv:mq l d p with
   |false=>exact⟨_,rfl,rfl,.inl ⟨rfl,rfl⟩⟩
   |true=>
    have hV:=Zf hl hv;have vH:=Hg hV.oX;obtain⟨n,h1,h2⟩:=rounds vH.1 (xJ jG).1;have e2:=aqn hV vr (xJ hf) (xJ jG) h1 h2;refine⟨((ke l d p vr step bH n).2.2,(ke l d p vr step bH n).1,(ke l d p vr step bH n).2.1),?_,?_,.inr ⟨hV,xJ jG,xJ hf,rfl,n,h1,h2,rfl⟩⟩
    ·cases hs:(eI vr.X&&(eI vr.Y&&nN p vr.X vr.Y)) with
     |false=>
      unfold ke;rw [Zi hs];rfl
     |true=>
      have cJ:=hs;rw [Bool.and_eq_true,Bool.and_eq_true] at cJ;have e1:=aqm hV cJ.1 cJ.2.1 cJ.2.2 (xJ hf) (xJ jG) h1 h2;simp only [Bool.and_true,cond_true,Bool.not_true,cond_false];rw [e1];rfl
    ·simp only [Bool.not_true,cond_false];rw [e2];rfl
end Go.Proofs.YtccnpbnokndeeaaGreatDoor
end
