/- Texts for the law: A1h, A1i, P1, P2. -/
import Derived.Test.YtccnpbnokndeeaaGreatDoorT10
noncomputable section
open Option renaming bind→β
open Sum renaming inr→ι,inl→κ
namespace Go.Proofs.YtccnpbnokndeeaaGreatDoor
open Go Go.Ab
set_option maxRecDepth 20000
set_option maxHeartbeats 1000000
def jf (n:bq) (x:cB):Int:=
 (cU ((bif(decide (n.Kind<0)) then(κ 10) else(bif(decide (3<n.Kind)) then(κ 10) else(bif(n.Kind==0) then(bif(n.At !=0) then(κ 10) else(ι ())) else(ι ())))):Int⊕Unit) (Sum.elim (fun q=>q) (fun _=>(bif(decide (64<x.level)) then 28 else(bif(iN n.Kind) then(cU (b8 x.en n.Kind) (fun av=>(bif(decide (n.At≤av.a)) then 20 else(bif(decide (av.b≤n.At)) then 20 else 0)))) else 0)))))
theorem Wu (n:bq) (x:cB) (r:Int) (h:jf n x=r):Holds Tryz.prog 138 [aX n,fT x] [] (I r) []:=by
 unfold jf at h;refine bm Tryz.func138 rfl Tryz.ntmps138 rfl rfl rfl (fun lim=>?_);refine aa 3 rfl ?_;obtain⟨y,bw,h⟩:=dH h;refine bJ (X:=Unit) [2,3] [2,3] (fun _=>[]) (fun _=>[]) (fun w=>ι w=y) rfl rfl ?_ ?_
 ·skip;refine aq 4 rfl ?_;refine bd rfl rfl rfl (fun g3=>?_) (fun g3=>?_)
  ·rw [g3];replace bw:=ai bw g3;refine af 14 rfl ?_;refine ao rfl (fun aL=>?_) Zx;clear aL;refine aa 1 rfl (aK ?_);subst bw;have hn4:=bL h;refine aF ?_;have e5:=hn4;subst e5;refine a8 ?_;refine bp ab rfl rfl ?_;exact(aB _ rfl)
  ·rw [g3];replace bw:=aj bw g3;refine Zr 5 rfl ?_;refine bd rfl rfl rfl (fun g6=>?_) (fun g6=>?_)
   ·rw [g6];replace bw:=ai bw g6;refine af 9 rfl ?_;refine ao rfl (fun aL=>?_) Zx;clear aL;refine aa 1 rfl (aK ?_);subst bw;have Lw:=bL h;refine aF ?_;have e8:=Lw;subst e8;refine a8 ?_;refine bp ab rfl rfl ?_;exact(aB _ rfl)
   ·rw [g6];replace bw:=aj bw g6;refine Zr 4 rfl ?_;refine bd rfl rfl rfl (fun g9=>?_) (fun g9=>?_)
    ·rw [g9];replace bw:=ai bw g9;refine af 5 rfl ?_;refine ao (b:=n.At !=0) rfl (fun db=>?_) (fun db=>?_)
     ·replace bw:=ai bw db;refine aa 1 rfl (aK ?_);subst bw;have kK:=bL h;refine aF ?_;have ik:=kK;subst ik;refine a8 ?_;refine bp ab rfl rfl ?_;exact(aB _ rfl)
     ·replace bw:=aj bw db;refine b_ ?_;have fw:=bw;refine ak ⟨rfl,(),[(2,some 2),(3,some 3)],⟨rfl,rfl,rfl,rfl,rfl,trivial,trivial⟩,fw⟩
    ·rw [g9];replace bw:=aj bw g9;refine af 5 rfl ?_;refine ao rfl Zx (fun aL=>?_);clear aL;refine b_ ?_;have ju:=bw;refine ak ⟨rfl,(),[(2,some 2),(3,some 3)],⟨rfl,rfl,rfl,rfl,rfl,trivial,trivial⟩,ju⟩
 ·intro w dx;subst dx;replace h:=dI h;refine ay (aa 3 rfl ?_);refine ao (b:=decide (64<x.level)) rfl (fun gD=>?_) (fun gD=>?_)
  ·replace h:=ai h gD;refine aa 1 rfl (Ze ?_);have iY:=h;subst iY;refine a8 ?_;refine bp ab rfl rfl ?_;exact(aB _ rfl)
  ·replace h:=aj h gD;refine Zk (ay (aq 2 rfl ?_));refine aM vO (xm n.Kind _ rfl) rfl rfl rfl rfl rfl rfl rfl ?_;refine Zn ?_;refine ao (b:=iN n.Kind) rfl (fun dS=>?_) (fun dS=>?_)
   ·replace h:=ai h dS;refine aq 4 rfl ?_;obtain⟨av,h9,h⟩:=dH h;refine aM JR (LC x.en n.Kind av h9) rfl rfl rfl rfl rfl rfl rfl ?_;refine af 2 rfl (aq 6 rfl ?_);refine bd rfl rfl rfl (fun g19=>?_) (fun g19=>?_)
    ·rw [g19];replace h:=ai h g19;refine af 6 rfl ?_;refine ao rfl (fun aL=>?_) Zx;clear aL;refine aa 1 rfl (Ze ?_);have jy:=h;subst jy;refine a8 ?_;refine bp ab rfl rfl ?_;exact(aB _ rfl)
    ·rw [g19];replace h:=aj h g19;refine af 6 rfl ?_;refine ao (b:=decide (av.b≤n.At)) rfl (fun fJ=>?_) (fun fJ=>?_)
     ·replace h:=ai h fJ;refine aa 1 rfl (Ze ?_);have gU:=h;subst gU;refine a8 ?_;refine bp ab rfl rfl ?_;exact(aB _ rfl)
     ·replace h:=aj h fJ;refine Zk (aa 1 rfl (aK ?_));have lO:=h;subst lO;refine a8 ?_;refine bp ab rfl rfl ?_;exact(aB _ rfl)
   ·replace h:=aj h dS;refine Zk (aa 1 rfl (aK ?_));have fU:=h;subst fU;refine a8 ?_;refine bp ab rfl rfl ?_;exact(aB _ rfl)
theorem Hk (p:dR) (kerf:Int):Holds Tryz.prog 80 [oK p,I kerf] [] (.cE 139 [] [.ref 999 0 0,.ref 998 0 0]) [(999,some ⟨39,5,[oK p]⟩),(998,some ⟨3,1,[I kerf]⟩)]:=by
 refine bm Tryz.func80 rfl Tryz.ntmps80 rfl rfl rfl (fun lim=>?_);refine aa 3 rfl (aa 2 rfl (aK (a8 ?_)));exact gu [(999,some 2),(998,some 3)] ab rfl rfl rfl rfl ⟨rfl,trivial,⟨rfl,rfl,rfl⟩,⟨rfl,rfl,rfl⟩,trivial⟩ ⟨⟨_,rfl,rfl,rfl,.inl ⟨rfl,aw rfl⟩⟩,⟨_,rfl,rfl,rfl,.inl ⟨rfl,aw rfl⟩⟩,trivial⟩
def uO (p0:aJ) (bZ:Int):Int:=
 (bif(decide (bZ<0)) then 8 else(bif(decide (16≤bZ)) then 8 else 0))
theorem alP (p0:aJ) (bZ:Int) (r:Int) (h:uO p0 bZ=r):Holds Tryz.prog 79 [cP p0,I bZ] [] (I r) []:=by
 unfold uO at h;refine bm Tryz.func79 rfl Tryz.ntmps79 rfl rfl rfl (fun lim=>?_);refine aa 2 rfl (ay (aq 3 rfl ?_));refine bd rfl rfl rfl (fun g1=>?_) (fun g1=>?_)
 ·rw [g1];replace h:=ai h g1;refine af 3 rfl ?_;refine ao rfl (fun aL=>?_) Zx;clear aL;refine aa 1 rfl (Ze ?_);have e2:=h;subst e2;refine a8 ?_;refine bp ab rfl rfl ?_;exact(aB _ rfl)
 ·rw [g1];replace h:=aj h g1;refine af 3 rfl ?_;refine ao (b:=decide (16≤bZ)) rfl (fun c3=>?_) (fun c3=>?_)
  ·replace h:=ai h c3;refine aa 1 rfl (Ze ?_);have e4:=h;subst e4;refine a8 ?_;refine bp ab rfl rfl ?_;exact(aB _ rfl)
  ·replace h:=aj h c3;refine Zk (aa 1 rfl (aK ?_));have e5:=h;subst e5;refine a8 ?_;refine bp ab rfl rfl ?_;exact(aB _ rfl)
def AK (vr:aJ) (bZ:Int) (p2:List bh):Option Int:=
 (bif(decide (bZ<0)) then some 8 else(bif(decide (((p2.length:Nat):Int)≤bZ)) then some 8 else(β (aC p2 bZ) (fun e=>(cU (nT e) (fun gv=>(bif((i_ vr.X)!=gv.1) then(bif((i_ vr.X)!=gv.2) then some 20 else(bif((i_ vr.Y)!=gv.1) then some 20 else some 0)) else(bif((i_ vr.Y)!=gv.2) then(bif((i_ vr.X)!=gv.2) then some 20 else(bif((i_ vr.Y)!=gv.1) then some 20 else some 0)) else some 0))))))))
theorem alQ (vr:aJ) (bZ:Int) (p2:List bh) (r:Int) (h:AK vr bZ p2=some r):Holds Tryz.prog 136 [cP vr,I bZ,.vp [an cL p2]] [] (I r) []:=by
 unfold AK at h;refine bm Tryz.func136 rfl Tryz.ntmps136 rfl rfl rfl (fun lim=>?_);refine aa 2 rfl (ay (aq 3 rfl ?_));refine bd rfl rfl rfl (fun g1=>?_) (fun g1=>?_)
 ·rw [g1];replace h:=ai h g1;refine af 5 rfl ?_;refine ao rfl (fun aL=>?_) Zx;clear aL;refine aa 1 rfl (Ze ?_);exact Zq h rfl rfl rfl
 ·rw [g1];replace h:=aj h g1;refine Zr 2 rfl ?_;refine bg cL p2 ab rfl rfl rfl rfl rfl rfl ?_;refine af 2 rfl ?_;refine ao (b:=decide (((p2.length:Nat):Int)≤bZ)) rfl (fun c3=>?_) (fun c3=>?_)
  ·replace h:=ai h c3;refine aa 1 rfl (Ze ?_);exact Zq h rfl rfl rfl
  ·replace h:=aj h c3;refine Zk (aq 2 rfl ?_);obtain⟨e,eV,h⟩:=ah h;refine bn cL p2 bZ e eV ab rfl rfl rfl rfl rfl rfl rfl rfl rfl ?_;refine Zr 1 rfl ?_;obtain⟨gv,dM,h⟩:=dH h;refine aM BT (Dd e gv dM) rfl rfl rfl rfl rfl rfl rfl ?_;refine af 5 rfl (aq 2 rfl ?_);refine aM yG (Ap vr.X _ rfl) rfl rfl rfl rfl rfl rfl rfl ?_;refine Zr 2 rfl ?_;refine aM yG (Ap vr.Y _ rfl) rfl rfl rfl rfl rfl rfl rfl ?_;refine Zr 2 rfl ?_;refine aA (fun _=>by kernel_rfl) ?_;refine ak (ay (aq 4 rfl ?_));refine bd rfl rfl rfl (fun g7=>?_) (fun g7=>?_)
   ·rw [g7];replace h:=ai h g7;refine Zr 9 rfl ?_;refine bd rfl rfl rfl (fun g8=>?_) (fun g8=>?_)
    ·rw [g8];replace h:=ai h g8;refine af 5 rfl ?_;refine ao rfl (fun aL=>?_) Zx;clear aL;refine aa 1 rfl (Ze ?_);exact Zq h rfl rfl rfl
    ·rw [g8];replace h:=aj h g8;refine af 5 rfl ?_;refine ao (b:=(i_ vr.Y)!=gv.1) rfl (fun db=>?_) (fun db=>?_)
     ·replace h:=ai h db;refine aa 1 rfl (Ze ?_);exact Zq h rfl rfl rfl
     ·replace h:=aj h db;refine Zk (aa 1 rfl (aK ?_));exact Zq h rfl rfl rfl
   ·rw [g7];replace h:=aj h g7;refine Zr 5 rfl ?_;refine bd rfl rfl rfl (fun g13=>?_) (fun g13=>?_)
    ·rw [g13];replace h:=ai h g13;refine Zr 4 rfl ?_;refine bd rfl rfl rfl (fun g14=>?_) (fun g14=>?_)
     ·rw [g14];replace h:=ai h g14;refine af 5 rfl ?_;refine ao rfl (fun aL=>?_) Zx;clear aL;refine aa 1 rfl (Ze ?_);exact Zq h rfl rfl rfl
     ·rw [g14];replace h:=aj h g14;refine af 5 rfl ?_;refine ao (b:=(i_ vr.Y)!=gv.1) rfl (fun eF=>?_) (fun eF=>?_)
      ·replace h:=ai h eF;refine aa 1 rfl (Ze ?_);exact Zq h rfl rfl rfl
      ·replace h:=aj h eF;refine Zk (aa 1 rfl (aK ?_));exact Zq h rfl rfl rfl
    ·rw [g13];replace h:=aj h g13;refine af 9 rfl ?_;refine ao rfl Zx (fun aL=>?_);clear aL;refine Zk (aa 1 rfl (aK ?_));exact Zq h rfl rfl rfl
def LN (p:dR) (vv:Int) (used:Int) (i:Int) (x:cB):Option ((Int×Int)⊕(Int×Int)):=
 (bif(decide (((p.br.length:Nat):Int)≤i)) then some (ι (3,used)) else(β (aC p.br i) (fun e=>(bif((jf e x)==0) then(bif(e.Kind==1) then(bif((uO x.en e.At)!=0) then some (ι ((uO x.en e.At),used)) else some (κ (vv,U (i+1)))) else(bif((jf e x)!=0) then some (ι ((jf e x),used)) else some (κ (vv,U (i+1))))) else(bif((jf e x)!=0) then some (ι ((jf e x),used)) else some (κ (vv,U (i+1))))))))
def DT (p:dR) (kerf:Int) (dp:List cB) (i:Int) (w:Int) (w1:Int):Option (((List cB)×Int×Int×Int)⊕((Int×Int)⊕(Int×Int))):=
 (bif(decide (0<((dp.length:Nat):Int))) then(β (aC dp (U (((dp.length:Nat):Int) -1))) (fun e=>(β (kJ dp (U (((dp.length:Nat):Int) -1))) (fun l=>(β (LN p w w1 i e) (fun iL=>Sum.elim (fun vv=>(bif(decide (((p.br.length:Nat):Int)≤i)) then some (ι (κ (vv.1,vv.2))) else(β (aC p.br i) (fun e2=>(bif(iN e2.Kind) then(cU (cJ e.en e2 kerf) (fun pv=>(β (cK 40 l ([(⟨pv.2.2,U (e.level+1)⟩:cB),(⟨pv.1,U (e.level+1)⟩:cB)])) (fun l1=>some (κ (l1,U (i+1),vv.1,vv.2)))))) else some (κ (l,U (i+1),vv.1,vv.2))))))) (fun aR=>some (ι (ι (aR.1,aR.2)))) iL)))))) else some (ι (κ (w,w1))))
def xw (p:dR) (kerf:Int):Option Int:=
 (β (nq p.Frame) (fun iv=>(bif(!iv) then some 19 else(bif(decide (kerf<0)) then some 9 else(bif(decide (20<kerf)) then some 9 else(bif(decide (127<((p.br.length:Nat):Int))) then some 4 else(β (bb (fun q=>DT p kerf q.1 q.2.1 q.2.2.1 q.2.2.2) ([(⟨p.Frame,1⟩:cB)],0,0,0)) (fun vz=>Sum.elim (fun cI=>(bif(decide (cI.2<((p.br.length:Nat):Int))) then some 4 else some 0)) (fun lx=>some lx.1) vz))))))))
theorem Wv (p:dR) (kerf:Int) (r:Int) (h:xw p kerf=some r):Holds Tryz.prog 78 [oK p,I kerf,.cE 79 [] []] [] (I r) []:=by
 unfold xw at h;refine B3 Tryz.func78 rfl Tryz.ntmps78 rfl rfl (fun lim=>?_);refine jX ?_;refine fY 3 rfl ?_;refine jX ?_;refine aq 2 rfl ?_;obtain⟨iv,bx,h⟩:=ah h;refine aM JQ (LB p.Frame iv bx) rfl rfl rfl rfl rfl rfl rfl ?_;refine af 1 rfl ?_;refine ao (b:=!iv) rfl (fun c2=>?_) (fun c2=>?_)
 ·replace h:=ai h c2;refine aa 1 rfl (Ze ?_);exact Zq h rfl rfl rfl
 ·replace h:=aj h c2;refine Zk ?_;refine jX ?_;refine aq 3 rfl ?_;refine bd rfl rfl rfl (fun g4=>?_) (fun g4=>?_)
  ·rw [g4];replace h:=ai h g4;refine af 3 rfl ?_;refine ao rfl (fun aL=>?_) Zx;clear aL;refine aa 1 rfl (Ze ?_);exact Zq h rfl rfl rfl
  ·rw [g4];replace h:=aj h g4;refine af 3 rfl ?_;refine ao (b:=decide (20<kerf)) rfl (fun c6=>?_) (fun c6=>?_)
   ·replace h:=ai h c6;refine aa 1 rfl (Ze ?_);exact Zq h rfl rfl rfl
   ·replace h:=aj h c6;refine Zk ?_;refine jX ?_;refine aq 2 rfl ?_;refine bg aX p.br ab rfl rfl rfl rfl rfl rfl ?_;refine af 1 rfl ?_;refine ao (b:=decide (127<((p.br.length:Nat):Int))) rfl (fun c8=>?_) (fun c8=>?_)
    ·replace h:=ai h c8;refine aa 1 rfl (Ze ?_);exact Zq h rfl rfl rfl
    ·replace h:=aj h c8;refine Zk ?_;refine jX ?_;refine fY 2 rfl ?_;refine B5 ?_;refine aQ 2 rfl ?_;refine iE (.cE 139 [] [.ref 700 0 0,.ref 701 0 0]) [] [(700,some ⟨39,5,[.agg [I p.Frame.X.a,I p.Frame.X.b,I p.Frame.Y.a,I p.Frame.Y.b,an aX p.br]]⟩),(701,some ⟨3,1,[I kerf]⟩)] [] [(700,some 999),(701,some 998)] FV (Hk p kerf) rfl rfl rfl rfl rfl trivial ⟨aB _ rfl,aB _ rfl,trivial⟩ rfl rfl trivial rfl rfl ⟨⟨_,rfl,rfl,rfl,.inl ⟨rfl,aw rfl⟩⟩,⟨_,rfl,rfl,rfl,.inl ⟨rfl,aw rfl⟩⟩,trivial⟩ ⟨rfl,trivial,⟨rfl,rfl,rfl⟩,⟨rfl,rfl,rfl⟩,trivial⟩ rfl (fun h=>absurd rfl h) rfl rfl rfl ?_;refine Zn ?_;obtain⟨vz,bD,h⟩:=ah h;refine Cb (X:=Int×Int) (Y:=Int×Int) (t0:=[(3,.ref 1000 0 0),(5,.ref 1001 0 0),(6,.ref 1002 0 0),(7,.ref 1003 0 0)]) (M:=[(1000,some ⟨39,5,[.agg [I p.Frame.X.a,I p.Frame.X.b,I p.Frame.Y.a,I p.Frame.Y.b,an aX p.br]]⟩),(1001,some ⟨175,1,[.cE 79 [] []]⟩),(1002,some ⟨44,1,[I 0]⟩),(1003,some ⟨3,1,[I 0]⟩),(1004,some ⟨39,5,[.agg [I p.Frame.X.a,I p.Frame.X.b,I p.Frame.Y.a,I p.Frame.Y.b,an aX p.br]]⟩),(1005,some ⟨3,1,[I kerf]⟩)]) (caps':=[.ref 1004 0 0,.ref 1005 0 0]) (fun l=>[(0,.sc (.func (.yield l) #[] #[])),(1,.ref 1004 0 0),(2,.ref 1005 0 0)]) [(1000,some 3),(1001,some 5),(1002,some 6),(1003,some 7),(1004,some 700),(1005,some 701)] [(1000,some 3),(1001,some 5),(1002,some 6),(1003,some 7)] vz (fun q=>[(1000,some ⟨39,5,[.agg [I p.Frame.X.a,I p.Frame.X.b,I p.Frame.Y.a,I p.Frame.Y.b,an aX p.br]]⟩),(1001,some ⟨175,1,[.cE 79 [] []]⟩),(1002,some ⟨44,1,[I q.1]⟩),(1003,some ⟨3,1,[I q.2]⟩),(1004,some ⟨39,5,[.agg [I p.Frame.X.a,I p.Frame.X.b,I p.Frame.Y.a,I p.Frame.Y.b,an aX p.br]]⟩),(1005,some ⟨3,1,[I kerf]⟩)]) (fun q=>[(1000,some ⟨39,5,[.agg [I p.Frame.X.a,I p.Frame.X.b,I p.Frame.Y.a,I p.Frame.Y.b,an aX p.br]]⟩),(1001,some ⟨175,1,[.cE 79 [] []]⟩),(1002,some ⟨44,1,[I q.1]⟩),(1003,some ⟨3,1,[I q.2]⟩),(1004,some ⟨39,5,[.agg [I p.Frame.X.a,I p.Frame.X.b,I p.Frame.Y.a,I p.Frame.Y.b,an aX p.br]]⟩),(1005,some ⟨3,1,[I kerf]⟩)]) rfl Tryz.func139 rfl Tryz.ntmps139 rfl (B6 F0) rfl rfl rfl rfl ⟨⟨_,rfl,rfl,rfl,.inl ⟨rfl,aw rfl⟩⟩,⟨_,rfl,rfl,rfl,.inl ⟨rfl,aw rfl⟩⟩,⟨_,rfl,rfl,rfl,.inl ⟨rfl,aw rfl⟩⟩,⟨_,rfl,rfl,rfl,.inl ⟨rfl,aw rfl⟩⟩,⟨_,rfl,rfl,rfl,.inl ⟨rfl,aw rfl⟩⟩,⟨_,rfl,rfl,rfl,.inl ⟨rfl,aw rfl⟩⟩,trivial⟩ ⟨⟨rfl,rfl,rfl⟩,⟨rfl,rfl,rfl⟩,trivial⟩ ⟨⟨rfl,rfl,rfl⟩,⟨rfl,rfl,rfl⟩,⟨rfl,rfl,rfl⟩,⟨rfl,rfl,rfl⟩,trivial⟩ rfl rfl (fun _=>rfl) (fun _=>rfl) (fun _=>rfl) (fun alR alS alT alU LO LP LQ LR LS LU LV LW=>?_) (fun cI hv lim=>?_) (fun lx hv=>?_)
     ·skip;refine fj ?_;refine eC ?_;refine fY 5 rfl ?_;refine fj ?_;refine eC ?_;refine fY 1 rfl ?_;refine rq ?_;refine B' (X:=(List cB)×Int×Int×Int) (Y:=(Int×Int)⊕(Int×Int)) [0,1,2] [1004,1005,1000,1001] (fun q=>[(4,.arr 4 0 q.1.length),(5,I q.2.1)]) (fun q=>[(4,some ⟨180,5,q.1.map fT⟩),(1002,some ⟨44,1,[I q.2.2.1]⟩),(1003,some ⟨3,1,[I q.2.2.2]⟩)]) (fun q=>DT p kerf q.1 q.2.1 q.2.2.1 q.2.2.2) ([(⟨p.Frame,1⟩:cB)],0,0,0) [(4,some 14),(1002,some 1002),(1003,some 1003),(1004,some 1004),(1005,some 1005),(1000,some 1000),(1001,some 1001)] bD ⟨rfl,rfl,rfl,rfl,rfl,⟨⟨rfl,rfl,rfl⟩,ag _ rfl,trivial⟩,⟨⟨_,rfl,rfl,rfl,aD (enc:=fT) ([(⟨p.Frame,1⟩:cB)]) (fun _=>rfl)⟩,⟨_,rfl,rfl,rfl,.inl ⟨rfl,aw rfl⟩⟩,⟨_,rfl,rfl,rfl,.inl ⟨rfl,aw rfl⟩⟩,trivial⟩⟩ (fun x vR gS bN jN=>?_);obtain⟨dp,i,w,w1⟩:=x;change DT p kerf dp i w w1=_ at bN;unfold DT at bN;refine fj ?_;refine eC ?_;refine aa 3 rfl ?_;refine ao (b:=decide (0<((dp.length:Nat):Int))) rfl (fun fa=>?_) (fun fa=>?_)
      ·replace bN:=ai bN fa;refine Zk ?_;refine fj ?_;refine rq ?_;refine fj ?_;refine eC ?_;refine aQ 4 rfl ?_;obtain⟨e,eW,bN⟩:=ah bN;refine ew fT dp (U (((dp.length:Nat):Int) -1)) e eW rfl ab rfl rfl rfl rfl rfl rfl rfl rfl rfl rfl ?_;refine gO fT dp (U (((dp.length:Nat):Int) -1)) e _ eW ab rfl rfl rfl rfl rfl rfl rfl ?_;refine af 2 rfl ?_;refine fj ?_;refine eC ?_;refine aQ 4 rfl ?_;obtain⟨l,gX,bN⟩:=ah bN;refine rz fT dp l (U (((dp.length:Nat):Int) -1)) gX rfl ab rfl rfl rfl rfl rfl rfl rfl rfl rfl rfl rfl ?_;refine af 1 rfl ?_;refine fj ?_;refine fj ?_;refine B8 ?_;refine qb (acc:=[]) 3 rfl ?_;refine Zr 3 rfl (aA nd ?_);obtain⟨iL,bI,bN⟩:=ah bN;refine Ca (M:=[(1000,some ⟨39,5,[.agg [I p.Frame.X.a,I p.Frame.X.b,I p.Frame.Y.a,I p.Frame.Y.b,an aX p.br]]⟩),(1001,some ⟨175,1,[.cE 79 [] []]⟩),(1002,some ⟨44,1,[I w]⟩),(1003,some ⟨3,1,[I w1]⟩),(1004,some ⟨39,5,[.agg [I p.Frame.X.a,I p.Frame.X.b,I p.Frame.Y.a,I p.Frame.Y.b,an aX p.br]]⟩),(1005,some ⟨3,1,[I kerf]⟩)]) iL [(1000,some 1000),(1001,some 1001),(1002,some 1002),(1003,some 1003),(1004,some 1004),(1005,some 1005)] [(1000,some 1000),(1001,some 1001),(1002,some 1002),(1003,some 1003),(1004,some 1004),(1005,some 1005)] (fun q=>[(1000,some ⟨39,5,[.agg [I p.Frame.X.a,I p.Frame.X.b,I p.Frame.Y.a,I p.Frame.Y.b,an aX p.br]]⟩),(1001,some ⟨175,1,[.cE 79 [] []]⟩),(1002,some ⟨44,1,[I q.1]⟩),(1003,some ⟨3,1,[I q.2]⟩),(1004,some ⟨39,5,[.agg [I p.Frame.X.a,I p.Frame.X.b,I p.Frame.Y.a,I p.Frame.Y.b,an aX p.br]]⟩),(1005,some ⟨3,1,[I kerf]⟩)]) (fun q=>[(1000,some ⟨39,5,[.agg [I p.Frame.X.a,I p.Frame.X.b,I p.Frame.Y.a,I p.Frame.Y.b,an aX p.br]]⟩),(1001,some ⟨175,1,[.cE 79 [] []]⟩),(1002,some ⟨44,1,[I q.1]⟩),(1003,some ⟨3,1,[I q.2]⟩),(1004,some ⟨39,5,[.agg [I p.Frame.X.a,I p.Frame.X.b,I p.Frame.Y.a,I p.Frame.Y.b,an aX p.br]]⟩),(1005,some ⟨3,1,[I kerf]⟩)]) (Cc iL (fun q=>[(1000,some ⟨39,5,[.agg [I p.Frame.X.a,I p.Frame.X.b,I p.Frame.Y.a,I p.Frame.Y.b,an aX p.br]]⟩),(1001,some ⟨175,1,[.cE 79 [] []]⟩),(1002,some ⟨44,1,[I q.1]⟩),(1003,some ⟨3,1,[I q.2]⟩),(1004,some ⟨39,5,[.agg [I p.Frame.X.a,I p.Frame.X.b,I p.Frame.Y.a,I p.Frame.Y.b,an aX p.br]]⟩),(1005,some ⟨3,1,[I kerf]⟩)]) (fun q=>[(1000,some ⟨39,5,[.agg [I p.Frame.X.a,I p.Frame.X.b,I p.Frame.Y.a,I p.Frame.Y.b,an aX p.br]]⟩),(1001,some ⟨175,1,[.cE 79 [] []]⟩),(1002,some ⟨44,1,[I q.1]⟩),(1003,some ⟨3,1,[I q.2]⟩),(1004,some ⟨39,5,[.agg [I p.Frame.X.a,I p.Frame.X.b,I p.Frame.Y.a,I p.Frame.Y.b,an aX p.br]]⟩),(1005,some ⟨3,1,[I kerf]⟩)]) LP LQ LR LS LU rfl LV rfl rfl rfl rfl (LW _ _ rfl) (fun lim=>?_)) rfl rfl rfl rfl ⟨aB _ rfl,aB _ rfl,trivial⟩ rfl rfl ⟨⟨_,rfl,rfl,rfl,.inl ⟨rfl,aw rfl⟩⟩,⟨_,rfl,rfl,rfl,.inl ⟨rfl,aw rfl⟩⟩,⟨_,rfl,rfl,rfl,.inl ⟨rfl,aw rfl⟩⟩,⟨_,rfl,rfl,rfl,.inl ⟨rfl,aw rfl⟩⟩,⟨_,rfl,rfl,rfl,.inl ⟨rfl,aw rfl⟩⟩,⟨_,rfl,rfl,rfl,.inl ⟨rfl,aw rfl⟩⟩,trivial⟩ rfl (fun _=>rfl) (fun _=>rfl) (fun _=>⟨⟨_,rfl,rfl,rfl,.inl ⟨rfl,aw rfl⟩⟩,⟨_,rfl,rfl,rfl,.inl ⟨rfl,aw rfl⟩⟩,⟨_,rfl,rfl,rfl,.inl ⟨rfl,aw rfl⟩⟩,⟨_,rfl,rfl,rfl,.inl ⟨rfl,aw rfl⟩⟩,⟨_,rfl,rfl,rfl,.inl ⟨rfl,aw rfl⟩⟩,⟨_,rfl,rfl,rfl,.inl ⟨rfl,aw rfl⟩⟩,trivial⟩) (fun _=>⟨⟨_,rfl,rfl,rfl,.inl ⟨rfl,aw rfl⟩⟩,⟨_,rfl,rfl,rfl,.inl ⟨rfl,aw rfl⟩⟩,⟨_,rfl,rfl,rfl,.inl ⟨rfl,aw rfl⟩⟩,⟨_,rfl,rfl,rfl,.inl ⟨rfl,aw rfl⟩⟩,⟨_,rfl,rfl,rfl,.inl ⟨rfl,aw rfl⟩⟩,⟨_,rfl,rfl,rfl,.inl ⟨rfl,aw rfl⟩⟩,trivial⟩) (fun _=>rfl) (fun _=>rfl) (fun _=>rfl) (fun _=>rfl) LO rfl (fun vv hv=>?_) (fun aR hv=>?_)
       ·unfold LN at bI;refine eo ?_;refine dK bX rfl ?_;refine af 1 rfl ?_;refine dK bX rfl ?_;refine af 2 rfl ?_;refine yZ ?_;refine eo ?_;refine eo ?_;refine dK bX rfl ?_;refine Zr 3 rfl ?_;refine bg aX p.br ab rfl rfl rfl rfl rfl rfl ?_;refine af 1 rfl ?_;refine mg (b:=decide (((p.br.length:Nat):Int)≤i)) rfl (fun dS=>?_) (fun dS=>?_)
        ·replace bI:=ai bI dS;refine eo ?_;refine dK bX rfl ?_;refine af 1 rfl ?_;refine tT ?_;refine aF (aW ?_);have gY:=ar bI;subst gY;exact tV ⟨[(1000,some 1000),(1001,some 1001),(1002,some 1002),(1003,some 1003),(1004,some 1004),(1005,some 1005)],rfl,rfl,⟨⟨_,rfl,rfl,rfl,.inl ⟨rfl,aw rfl⟩⟩,⟨_,rfl,rfl,rfl,.inl ⟨rfl,aw rfl⟩⟩,⟨_,rfl,rfl,rfl,.inl ⟨rfl,aw rfl⟩⟩,⟨_,rfl,rfl,rfl,.inl ⟨rfl,aw rfl⟩⟩,⟨_,rfl,rfl,rfl,.inl ⟨rfl,aw rfl⟩⟩,⟨_,rfl,rfl,rfl,.inl ⟨rfl,aw rfl⟩⟩,trivial⟩⟩
        ·replace bI:=aj bI dS;refine mR ?_;refine ak ?_;refine eo ?_;refine dK bX rfl ?_;refine Zr 3 rfl ?_;obtain⟨e1,lS,bI⟩:=ah bI;refine bn aX p.br i e1 lS ab rfl rfl rfl rfl rfl rfl rfl rfl rfl ?_;refine af 3 rfl ?_;refine eo ?_;refine dK bX rfl ?_;refine Zr 2 rfl ?_;refine aM Us (Wu e1 e _ rfl) rfl rfl rfl rfl rfl rfl rfl ?_;refine af 1 rfl ?_;refine eo ?_;refine eo ?_;refine dK bX rfl ?_;refine Zr 3 rfl ?_;refine bd rfl rfl rfl (fun g20=>?_) (fun g20=>?_)
         ·rw [g20];replace bI:=ai bI g20;refine af 4 rfl ?_;refine mg (b:=e1.Kind==1) rfl (fun fJ=>?_) (fun fJ=>?_)
          ·replace bI:=ai bI fJ;refine dK bX rfl ?_;refine Zr 5 rfl ?_;refine JD (L:=[]) agn (alP e.en e1.At _ rfl) rfl rfl rfl rfl rfl trivial ⟨aB _ rfl,aB _ rfl,trivial⟩ rfl rfl (fun h=>absurd rfl h) rfl ?_;refine af 1 rfl ?_;refine eo ?_;refine eo ?_;refine dK bX rfl ?_;refine af 2 rfl ?_;refine mg (b:=(uO e.en e1.At)!=0) rfl (fun kQ=>?_) (fun kQ=>?_)
           ·replace bI:=ai bI kQ;refine eo ?_;refine dK bX rfl ?_;refine af 2 rfl ?_;refine tT ?_;refine aF (aW ?_);have lO:=ar bI;subst lO;exact tV ⟨[(1000,some 1000),(1001,some 1001),(1002,some 1002),(1003,some 1003),(1004,some 1004),(1005,some 1005)],rfl,rfl,⟨⟨_,rfl,rfl,rfl,.inl ⟨rfl,aw rfl⟩⟩,⟨_,rfl,rfl,rfl,.inl ⟨rfl,aw rfl⟩⟩,⟨_,rfl,rfl,rfl,.inl ⟨rfl,aw rfl⟩⟩,⟨_,rfl,rfl,rfl,.inl ⟨rfl,aw rfl⟩⟩,⟨_,rfl,rfl,rfl,.inl ⟨rfl,aw rfl⟩⟩,⟨_,rfl,rfl,rfl,.inl ⟨rfl,aw rfl⟩⟩,trivial⟩⟩
           ·replace bI:=aj bI kQ;refine mR ?_;refine ak ?_;refine dK bX rfl ?_;refine Zr 3 rfl (aA nd (a_ ?_));have fU:=ar bI;subst fU;exact oO ⟨[(1000,some 1000),(1001,some 1001),(1002,some 1002),(1003,some 1003),(1004,some 1004),(1005,some 1005)],rfl,rfl,⟨⟨_,rfl,rfl,rfl,.inl ⟨rfl,aw rfl⟩⟩,⟨_,rfl,rfl,rfl,.inl ⟨rfl,aw rfl⟩⟩,⟨_,rfl,rfl,rfl,.inl ⟨rfl,aw rfl⟩⟩,⟨_,rfl,rfl,rfl,.inl ⟨rfl,aw rfl⟩⟩,⟨_,rfl,rfl,rfl,.inl ⟨rfl,aw rfl⟩⟩,⟨_,rfl,rfl,rfl,.inl ⟨rfl,aw rfl⟩⟩,trivial⟩⟩
          ·replace bI:=aj bI fJ;refine mR ?_;refine ak ?_;refine eo ?_;refine eo ?_;refine dK bX rfl ?_;refine af 2 rfl ?_;refine mg (b:=(jf e1 e)!=0) rfl (fun gC=>?_) (fun gC=>?_)
           ·replace bI:=ai bI gC;refine eo ?_;refine dK bX rfl ?_;refine af 2 rfl ?_;refine tT ?_;refine aF (aW ?_);have mT:=ar bI;subst mT;exact tV ⟨[(1000,some 1000),(1001,some 1001),(1002,some 1002),(1003,some 1003),(1004,some 1004),(1005,some 1005)],rfl,rfl,⟨⟨_,rfl,rfl,rfl,.inl ⟨rfl,aw rfl⟩⟩,⟨_,rfl,rfl,rfl,.inl ⟨rfl,aw rfl⟩⟩,⟨_,rfl,rfl,rfl,.inl ⟨rfl,aw rfl⟩⟩,⟨_,rfl,rfl,rfl,.inl ⟨rfl,aw rfl⟩⟩,⟨_,rfl,rfl,rfl,.inl ⟨rfl,aw rfl⟩⟩,⟨_,rfl,rfl,rfl,.inl ⟨rfl,aw rfl⟩⟩,trivial⟩⟩
           ·replace bI:=aj bI gC;refine mR ?_;refine ak ?_;refine dK bX rfl ?_;refine Zr 3 rfl (aA nd (a_ ?_));have im:=ar bI;subst im;exact oO ⟨[(1000,some 1000),(1001,some 1001),(1002,some 1002),(1003,some 1003),(1004,some 1004),(1005,some 1005)],rfl,rfl,⟨⟨_,rfl,rfl,rfl,.inl ⟨rfl,aw rfl⟩⟩,⟨_,rfl,rfl,rfl,.inl ⟨rfl,aw rfl⟩⟩,⟨_,rfl,rfl,rfl,.inl ⟨rfl,aw rfl⟩⟩,⟨_,rfl,rfl,rfl,.inl ⟨rfl,aw rfl⟩⟩,⟨_,rfl,rfl,rfl,.inl ⟨rfl,aw rfl⟩⟩,⟨_,rfl,rfl,rfl,.inl ⟨rfl,aw rfl⟩⟩,trivial⟩⟩
         ·rw [g20];replace bI:=aj bI g20;refine af 4 rfl ?_;refine mg rfl Zx (fun aL=>?_);clear aL;refine mR ?_;refine ak ?_;refine eo ?_;refine eo ?_;refine dK bX rfl ?_;refine af 2 rfl ?_;refine mg (b:=(jf e1 e)!=0) rfl (fun kT=>?_) (fun kT=>?_)
          ·replace bI:=ai bI kT;refine eo ?_;refine dK bX rfl ?_;refine af 2 rfl ?_;refine tT ?_;refine aF (aW ?_);have jv:=ar bI;subst jv;exact tV ⟨[(1000,some 1000),(1001,some 1001),(1002,some 1002),(1003,some 1003),(1004,some 1004),(1005,some 1005)],rfl,rfl,⟨⟨_,rfl,rfl,rfl,.inl ⟨rfl,aw rfl⟩⟩,⟨_,rfl,rfl,rfl,.inl ⟨rfl,aw rfl⟩⟩,⟨_,rfl,rfl,rfl,.inl ⟨rfl,aw rfl⟩⟩,⟨_,rfl,rfl,rfl,.inl ⟨rfl,aw rfl⟩⟩,⟨_,rfl,rfl,rfl,.inl ⟨rfl,aw rfl⟩⟩,⟨_,rfl,rfl,rfl,.inl ⟨rfl,aw rfl⟩⟩,trivial⟩⟩
          ·replace bI:=aj bI kT;refine mR ?_;refine ak ?_;refine dK bX rfl ?_;refine Zr 3 rfl (aA nd (a_ ?_));have kX:=ar bI;subst kX;exact oO ⟨[(1000,some 1000),(1001,some 1001),(1002,some 1002),(1003,some 1003),(1004,some 1004),(1005,some 1005)],rfl,rfl,⟨⟨_,rfl,rfl,rfl,.inl ⟨rfl,aw rfl⟩⟩,⟨_,rfl,rfl,rfl,.inl ⟨rfl,aw rfl⟩⟩,⟨_,rfl,rfl,rfl,.inl ⟨rfl,aw rfl⟩⟩,⟨_,rfl,rfl,rfl,.inl ⟨rfl,aw rfl⟩⟩,⟨_,rfl,rfl,rfl,.inl ⟨rfl,aw rfl⟩⟩,⟨_,rfl,rfl,rfl,.inl ⟨rfl,aw rfl⟩⟩,trivial⟩⟩
       ·subst hv;replace bN:=bL bN;refine qb (acc:=[]) 8 rfl ?_;refine Zr 5 rfl ?_;refine bg aX p.br ab rfl rfl rfl rfl rfl rfl ?_;refine Zr 2 rfl (aA nd ?_);refine yT rfl ?_;refine ak ?_;refine eC ?_;refine ao (b:=decide (((p.br.length:Nat):Int)≤i)) rfl (fun qN=>?_) (fun qN=>?_)
        ·replace bN:=ai bN qN;refine Ze (aW (aF ?_));obtain⟨t,vZ,hq⟩:=aZ bN;subst hq;have hq:t=_:=jN;subst hq;refine aF (aW ?_);have Dw:=ar vZ;subst Dw;refine a8 ⟨_,⟨_,rfl,rfl⟩,[(1000,some 1000),(1001,some 1001),(1002,some 1002),(1003,some 1003),(1004,some 1004),(1005,some 1005)],rfl,rfl,⟨⟨_,rfl,rfl,rfl,.inl ⟨rfl,aw rfl⟩⟩,⟨_,rfl,rfl,rfl,.inl ⟨rfl,aw rfl⟩⟩,⟨_,rfl,rfl,rfl,.inl ⟨rfl,aw rfl⟩⟩,⟨_,rfl,rfl,rfl,.inl ⟨rfl,aw rfl⟩⟩,⟨_,rfl,rfl,rfl,.inl ⟨rfl,aw rfl⟩⟩,⟨_,rfl,rfl,rfl,.inl ⟨rfl,aw rfl⟩⟩,trivial⟩⟩
        ·replace bN:=aj bN qN;refine Zk ?_;refine eC ?_;refine aq 3 rfl ?_;obtain⟨e2,ui,bN⟩:=ah bN;refine bn aX p.br i e2 ui ab rfl rfl rfl rfl rfl rfl rfl rfl rfl ?_;refine af 3 rfl (aq 2 rfl ?_);refine aM vO (xm e2.Kind _ rfl) rfl rfl rfl rfl rfl rfl rfl ?_;refine Zn ?_;refine ao (b:=iN e2.Kind) rfl (fun xk=>?_) (fun xk=>?_)
         ·replace bN:=ai bN xk;refine aq 4 rfl ?_;obtain⟨pv,CO,bN⟩:=dH bN;refine aM BW (DS e.en e2 kerf pv CO) rfl rfl rfl rfl rfl rfl rfl ?_;refine af 10 rfl (aQ 12 rfl ?_);obtain⟨l1,wB,bN⟩:=ah bN;refine dY fT l ([(⟨pv.2.2,U (e.level+1)⟩:cB),(⟨pv.1,U (e.level+1)⟩:cB)]) l1 wB (fun _=>rfl) rfl rfl ab rfl rfl rfl rfl rfl rfl rfl rfl rfl rfl rfl rfl rfl rfl rfl rfl rfl ?_;refine Zr 1 rfl (aA nd (a_ (ak ?_)));refine eC ?_;refine aQ 3 rfl (aA nd ?_);have sN:=ar bN;subst sN;refine ak ⟨rfl,(l1,U (i+1),vv.1,vv.2),[(4,some 72),(1002,some 1002),(1003,some 1003),(1004,some 1004),(1005,some 1005),(1000,some 1000),(1001,some 1001)],⟨rfl,rfl,rfl,rfl,rfl,⟨⟨rfl,rfl,rfl⟩,ag _ rfl,trivial⟩,⟨⟨_,rfl,rfl,rfl,aD (enc:=fT) l1 (fun _=>rfl)⟩,⟨_,rfl,rfl,rfl,.inl ⟨rfl,aw rfl⟩⟩,⟨_,rfl,rfl,rfl,.inl ⟨rfl,aw rfl⟩⟩,trivial⟩⟩,jN⟩
         ·replace bN:=aj bN xk;refine b_ (a_ (ak ?_));refine eC ?_;refine aQ 3 rfl (aA nd ?_);have qB:=ar bN;subst qB;refine ak ⟨rfl,(l,U (i+1),vv.1,vv.2),[(4,some 4),(1002,some 1002),(1003,some 1003),(1004,some 1004),(1005,some 1005),(1000,some 1000),(1001,some 1001)],⟨rfl,rfl,rfl,rfl,rfl,⟨⟨rfl,rfl,rfl⟩,ag _ rfl,trivial⟩,⟨⟨_,rfl,rfl,rfl,aD (enc:=fT) l (fun _=>rfl)⟩,⟨_,rfl,rfl,rfl,.inl ⟨rfl,aw rfl⟩⟩,⟨_,rfl,rfl,rfl,.inl ⟨rfl,aw rfl⟩⟩,trivial⟩⟩,jN⟩
       ·subst hv;replace bN:=dI bN;refine af 8 rfl ?_;refine ao rfl (fun aL=>?_) Zx;clear aL;refine Ze (aW (aF ?_));obtain⟨t1,wh,hq⟩:=aZ bN;subst hq;have hq:t1=_:=jN;subst hq;refine aF (aW ?_);have qC:=ar wh;subst qC;refine a8 ⟨_,⟨rfl,_,rfl,rfl⟩,[(1000,some 1000),(1001,some 1001),(1002,some 1002),(1003,some 1003),(1004,some 1004),(1005,some 1005)],rfl,rfl,⟨⟨_,rfl,rfl,rfl,.inl ⟨rfl,aw rfl⟩⟩,⟨_,rfl,rfl,rfl,.inl ⟨rfl,aw rfl⟩⟩,⟨_,rfl,rfl,rfl,.inl ⟨rfl,aw rfl⟩⟩,⟨_,rfl,rfl,rfl,.inl ⟨rfl,aw rfl⟩⟩,⟨_,rfl,rfl,rfl,.inl ⟨rfl,aw rfl⟩⟩,⟨_,rfl,rfl,rfl,.inl ⟨rfl,aw rfl⟩⟩,trivial⟩⟩
      ·replace bN:=aj bN fa;refine bP (aY ?_);obtain⟨t2,qi,hq⟩:=aZ bN;subst hq;have hq:t2=_:=jN;subst hq;refine aY (bQ ?_);have sT:=ar qi;subst sT;refine od ⟨_,⟨_,rfl,rfl⟩,[(1000,some 1000),(1001,some 1001),(1002,some 1002),(1003,some 1003),(1004,some 1004),(1005,some 1005)],rfl,rfl,⟨⟨_,rfl,rfl,rfl,.inl ⟨rfl,aw rfl⟩⟩,⟨_,rfl,rfl,rfl,.inl ⟨rfl,aw rfl⟩⟩,⟨_,rfl,rfl,rfl,.inl ⟨rfl,aw rfl⟩⟩,⟨_,rfl,rfl,rfl,.inl ⟨rfl,aw rfl⟩⟩,⟨_,rfl,rfl,rfl,.inl ⟨rfl,aw rfl⟩⟩,⟨_,rfl,rfl,rfl,.inl ⟨rfl,aw rfl⟩⟩,trivial⟩⟩
     ·subst hv;replace h:=bL h;refine ay (aq 3 rfl ?_);refine bg aX p.br ab rfl rfl rfl rfl rfl rfl ?_;refine af 1 rfl ?_;refine ao (b:=decide (cI.2<((p.br.length:Nat):Int))) rfl (fun qw=>?_) (fun qw=>?_)
      ·replace h:=ai h qw;refine aa 1 rfl (Ze ?_);have v8:=ar h;subst v8;refine vW ?_;refine sn ab rfl rfl ?_;exact(aB _ rfl)
      ·replace h:=aj h qw;refine Zk (aa 1 rfl (aK ?_));have Dh:=ar h;subst Dh;refine vW ?_;refine sn ab rfl rfl ?_;exact(aB _ rfl)
     ·subst hv;replace h:=dI h;have qj:=ar h;subst qj;refine sn ab rfl rfl ?_;exact(aB _ rfl)
def LX (p:dR) (q0:List bh) (vv:Int) (used:Int) (i:Int) (x:cB):Option ((Int×Int)⊕(Int×Int)):=
 (bif(decide (((p.br.length:Nat):Int)≤i)) then some (ι (3,used)) else(β (aC p.br i) (fun e=>(bif((jf e x)==0) then(bif(e.Kind==1) then(β (AK x.en e.At q0) (fun cv=>(bif(cv !=0) then some (ι (cv,used)) else some (κ (vv,U (i+1)))))) else(bif((jf e x)!=0) then some (ι ((jf e x),used)) else some (κ (vv,U (i+1))))) else(bif((jf e x)!=0) then some (ι ((jf e x),used)) else some (κ (vv,U (i+1))))))))
def DV (p:dR) (kerf:Int) (q0:List bh) (dp:List cB) (i:Int) (w:Int) (w1:Int):Option (((List cB)×Int×Int×Int)⊕((Int×Int)⊕(Int×Int))):=
 (bif(decide (0<((dp.length:Nat):Int))) then(β (aC dp (U (((dp.length:Nat):Int) -1))) (fun e=>(β (kJ dp (U (((dp.length:Nat):Int) -1))) (fun l=>(β (LX p q0 w w1 i e) (fun iL=>Sum.elim (fun vv=>(bif(decide (((p.br.length:Nat):Int)≤i)) then some (ι (κ (vv.1,vv.2))) else(β (aC p.br i) (fun e2=>(bif(iN e2.Kind) then(cU (cJ e.en e2 kerf) (fun pv=>(β (cK 40 l ([(⟨pv.2.2,U (e.level+1)⟩:cB),(⟨pv.1,U (e.level+1)⟩:cB)])) (fun l1=>some (κ (l1,U (i+1),vv.1,vv.2)))))) else some (κ (l,U (i+1),vv.1,vv.2))))))) (fun aR=>some (ι (ι (aR.1,aR.2)))) iL)))))) else some (ι (κ (w,w1))))
def Hl (p:dR) (kerf:Int) (q0:List bh):Option Int:=
 (β (nq p.Frame) (fun iv=>(bif(!iv) then some 19 else(bif(decide (kerf<0)) then some 9 else(bif(decide (20<kerf)) then some 9 else(bif(decide (127<((p.br.length:Nat):Int))) then some 4 else(β (bb (fun q=>DV p kerf q0 q.1 q.2.1 q.2.2.1 q.2.2.2) ([(⟨p.Frame,1⟩:cB)],0,0,0)) (fun vz=>Sum.elim (fun cI=>(bif(decide (cI.2<((p.br.length:Nat):Int))) then some 4 else some 0)) (fun lx=>some lx.1) vz))))))))
theorem alV (p:dR) (kerf:Int) (q0:List bh) (r:Int) (h:Hl p kerf q0=some r):Holds Tryz.prog 78 [oK p,I kerf,.cE 136 [] [.vp [an cL q0]]] [] (I r) []:=by
 unfold Hl at h;refine B3 Tryz.func78 rfl Tryz.ntmps78 rfl rfl (fun lim=>?_);refine jX ?_;refine fY 3 rfl ?_;refine jX ?_;refine aq 2 rfl ?_;obtain⟨iv,bx,h⟩:=ah h;refine aM JQ (LB p.Frame iv bx) rfl rfl rfl rfl rfl rfl rfl ?_;refine af 1 rfl ?_;refine ao (b:=!iv) rfl (fun c2=>?_) (fun c2=>?_)
 ·replace h:=ai h c2;refine aa 1 rfl (Ze ?_);exact Zq h rfl rfl rfl
 ·replace h:=aj h c2;refine Zk ?_;refine jX ?_;refine aq 3 rfl ?_;refine bd rfl rfl rfl (fun g4=>?_) (fun g4=>?_)
  ·rw [g4];replace h:=ai h g4;refine af 3 rfl ?_;refine ao rfl (fun aL=>?_) Zx;clear aL;refine aa 1 rfl (Ze ?_);exact Zq h rfl rfl rfl
  ·rw [g4];replace h:=aj h g4;refine af 3 rfl ?_;refine ao (b:=decide (20<kerf)) rfl (fun c6=>?_) (fun c6=>?_)
   ·replace h:=ai h c6;refine aa 1 rfl (Ze ?_);exact Zq h rfl rfl rfl
   ·replace h:=aj h c6;refine Zk ?_;refine jX ?_;refine aq 2 rfl ?_;refine bg aX p.br ab rfl rfl rfl rfl rfl rfl ?_;refine af 1 rfl ?_;refine ao (b:=decide (127<((p.br.length:Nat):Int))) rfl (fun c8=>?_) (fun c8=>?_)
    ·replace h:=ai h c8;refine aa 1 rfl (Ze ?_);exact Zq h rfl rfl rfl
    ·replace h:=aj h c8;refine Zk ?_;refine jX ?_;refine fY 2 rfl ?_;refine B5 ?_;refine aQ 2 rfl ?_;refine iE (.cE 139 [] [.ref 700 0 0,.ref 701 0 0]) [] [(700,some ⟨39,5,[.agg [I p.Frame.X.a,I p.Frame.X.b,I p.Frame.Y.a,I p.Frame.Y.b,an aX p.br]]⟩),(701,some ⟨3,1,[I kerf]⟩)] [] [(700,some 999),(701,some 998)] FV (Hk p kerf) rfl rfl rfl rfl rfl trivial ⟨aB _ rfl,aB _ rfl,trivial⟩ rfl rfl trivial rfl rfl ⟨⟨_,rfl,rfl,rfl,.inl ⟨rfl,aw rfl⟩⟩,⟨_,rfl,rfl,rfl,.inl ⟨rfl,aw rfl⟩⟩,trivial⟩ ⟨rfl,trivial,⟨rfl,rfl,rfl⟩,⟨rfl,rfl,rfl⟩,trivial⟩ rfl (fun h=>absurd rfl h) rfl rfl rfl ?_;refine Zn ?_;obtain⟨vz,bD,h⟩:=ah h;refine Cb (X:=Int×Int) (Y:=Int×Int) (t0:=[(3,.ref 1000 0 0),(5,.ref 1001 0 0),(6,.ref 1002 0 0),(7,.ref 1003 0 0)]) (M:=[(1000,some ⟨39,5,[.agg [I p.Frame.X.a,I p.Frame.X.b,I p.Frame.Y.a,I p.Frame.Y.b,an aX p.br]]⟩),(1001,some ⟨175,1,[.cE 136 [] [.vp [an cL q0]]]⟩),(1002,some ⟨44,1,[I 0]⟩),(1003,some ⟨3,1,[I 0]⟩),(1004,some ⟨39,5,[.agg [I p.Frame.X.a,I p.Frame.X.b,I p.Frame.Y.a,I p.Frame.Y.b,an aX p.br]]⟩),(1005,some ⟨3,1,[I kerf]⟩)]) (caps':=[.ref 1004 0 0,.ref 1005 0 0]) (fun l=>[(0,.sc (.func (.yield l) #[] #[])),(1,.ref 1004 0 0),(2,.ref 1005 0 0)]) [(1000,some 3),(1001,some 5),(1002,some 6),(1003,some 7),(1004,some 700),(1005,some 701)] [(1000,some 3),(1001,some 5),(1002,some 6),(1003,some 7)] vz (fun q=>[(1000,some ⟨39,5,[.agg [I p.Frame.X.a,I p.Frame.X.b,I p.Frame.Y.a,I p.Frame.Y.b,an aX p.br]]⟩),(1001,some ⟨175,1,[.cE 136 [] [.vp [an cL q0]]]⟩),(1002,some ⟨44,1,[I q.1]⟩),(1003,some ⟨3,1,[I q.2]⟩),(1004,some ⟨39,5,[.agg [I p.Frame.X.a,I p.Frame.X.b,I p.Frame.Y.a,I p.Frame.Y.b,an aX p.br]]⟩),(1005,some ⟨3,1,[I kerf]⟩)]) (fun q=>[(1000,some ⟨39,5,[.agg [I p.Frame.X.a,I p.Frame.X.b,I p.Frame.Y.a,I p.Frame.Y.b,an aX p.br]]⟩),(1001,some ⟨175,1,[.cE 136 [] [.vp [an cL q0]]]⟩),(1002,some ⟨44,1,[I q.1]⟩),(1003,some ⟨3,1,[I q.2]⟩),(1004,some ⟨39,5,[.agg [I p.Frame.X.a,I p.Frame.X.b,I p.Frame.Y.a,I p.Frame.Y.b,an aX p.br]]⟩),(1005,some ⟨3,1,[I kerf]⟩)]) rfl Tryz.func139 rfl Tryz.ntmps139 rfl (B6 F0) rfl rfl rfl rfl ⟨⟨_,rfl,rfl,rfl,.inl ⟨rfl,aw rfl⟩⟩,⟨_,rfl,rfl,rfl,.inl ⟨rfl,aw rfl⟩⟩,⟨_,rfl,rfl,rfl,.inl ⟨rfl,aw rfl⟩⟩,⟨_,rfl,rfl,rfl,.inl ⟨rfl,aw rfl⟩⟩,⟨_,rfl,rfl,rfl,.inl ⟨rfl,aw rfl⟩⟩,⟨_,rfl,rfl,rfl,.inl ⟨rfl,aw rfl⟩⟩,trivial⟩ ⟨⟨rfl,rfl,rfl⟩,⟨rfl,rfl,rfl⟩,trivial⟩ ⟨⟨rfl,rfl,rfl⟩,⟨rfl,rfl,rfl⟩,⟨rfl,rfl,rfl⟩,⟨rfl,rfl,rfl⟩,trivial⟩ rfl rfl (fun _=>rfl) (fun _=>rfl) (fun _=>rfl) (fun alR alS alT alU LO LP LQ LR LS LU LV LW=>?_) (fun cI hv lim=>?_) (fun lx hv=>?_)
     ·skip;refine fj ?_;refine eC ?_;refine fY 5 rfl ?_;refine fj ?_;refine eC ?_;refine fY 1 rfl ?_;refine rq ?_;refine B' (X:=(List cB)×Int×Int×Int) (Y:=(Int×Int)⊕(Int×Int)) [0,1,2] [1004,1005,1000,1001] (fun q=>[(4,.arr 4 0 q.1.length),(5,I q.2.1)]) (fun q=>[(4,some ⟨180,5,q.1.map fT⟩),(1002,some ⟨44,1,[I q.2.2.1]⟩),(1003,some ⟨3,1,[I q.2.2.2]⟩)]) (fun q=>DV p kerf q0 q.1 q.2.1 q.2.2.1 q.2.2.2) ([(⟨p.Frame,1⟩:cB)],0,0,0) [(4,some 14),(1002,some 1002),(1003,some 1003),(1004,some 1004),(1005,some 1005),(1000,some 1000),(1001,some 1001)] bD ⟨rfl,rfl,rfl,rfl,rfl,⟨⟨rfl,rfl,rfl⟩,ag _ rfl,trivial⟩,⟨⟨_,rfl,rfl,rfl,aD (enc:=fT) ([(⟨p.Frame,1⟩:cB)]) (fun _=>rfl)⟩,⟨_,rfl,rfl,rfl,.inl ⟨rfl,aw rfl⟩⟩,⟨_,rfl,rfl,rfl,.inl ⟨rfl,aw rfl⟩⟩,trivial⟩⟩ (fun x vR gS bN jN=>?_);obtain⟨dp,i,w,w1⟩:=x;change DV p kerf q0 dp i w w1=_ at bN;unfold DV at bN;refine fj ?_;refine eC ?_;refine aa 3 rfl ?_;refine ao (b:=decide (0<((dp.length:Nat):Int))) rfl (fun fa=>?_) (fun fa=>?_)
      ·replace bN:=ai bN fa;refine Zk ?_;refine fj ?_;refine rq ?_;refine fj ?_;refine eC ?_;refine aQ 4 rfl ?_;obtain⟨e,eW,bN⟩:=ah bN;refine ew fT dp (U (((dp.length:Nat):Int) -1)) e eW rfl ab rfl rfl rfl rfl rfl rfl rfl rfl rfl rfl ?_;refine gO fT dp (U (((dp.length:Nat):Int) -1)) e _ eW ab rfl rfl rfl rfl rfl rfl rfl ?_;refine af 2 rfl ?_;refine fj ?_;refine eC ?_;refine aQ 4 rfl ?_;obtain⟨l,gX,bN⟩:=ah bN;refine rz fT dp l (U (((dp.length:Nat):Int) -1)) gX rfl ab rfl rfl rfl rfl rfl rfl rfl rfl rfl rfl rfl ?_;refine af 1 rfl ?_;refine fj ?_;refine fj ?_;refine B8 ?_;refine qb (acc:=[]) 3 rfl ?_;refine Zr 3 rfl (aA nd ?_);obtain⟨iL,bI,bN⟩:=ah bN;refine Ca (M:=[(1000,some ⟨39,5,[.agg [I p.Frame.X.a,I p.Frame.X.b,I p.Frame.Y.a,I p.Frame.Y.b,an aX p.br]]⟩),(1001,some ⟨175,1,[.cE 136 [] [.vp [an cL q0]]]⟩),(1002,some ⟨44,1,[I w]⟩),(1003,some ⟨3,1,[I w1]⟩),(1004,some ⟨39,5,[.agg [I p.Frame.X.a,I p.Frame.X.b,I p.Frame.Y.a,I p.Frame.Y.b,an aX p.br]]⟩),(1005,some ⟨3,1,[I kerf]⟩)]) iL [(1000,some 1000),(1001,some 1001),(1002,some 1002),(1003,some 1003),(1004,some 1004),(1005,some 1005)] [(1000,some 1000),(1001,some 1001),(1002,some 1002),(1003,some 1003),(1004,some 1004),(1005,some 1005)] (fun q=>[(1000,some ⟨39,5,[.agg [I p.Frame.X.a,I p.Frame.X.b,I p.Frame.Y.a,I p.Frame.Y.b,an aX p.br]]⟩),(1001,some ⟨175,1,[.cE 136 [] [.vp [an cL q0]]]⟩),(1002,some ⟨44,1,[I q.1]⟩),(1003,some ⟨3,1,[I q.2]⟩),(1004,some ⟨39,5,[.agg [I p.Frame.X.a,I p.Frame.X.b,I p.Frame.Y.a,I p.Frame.Y.b,an aX p.br]]⟩),(1005,some ⟨3,1,[I kerf]⟩)]) (fun q=>[(1000,some ⟨39,5,[.agg [I p.Frame.X.a,I p.Frame.X.b,I p.Frame.Y.a,I p.Frame.Y.b,an aX p.br]]⟩),(1001,some ⟨175,1,[.cE 136 [] [.vp [an cL q0]]]⟩),(1002,some ⟨44,1,[I q.1]⟩),(1003,some ⟨3,1,[I q.2]⟩),(1004,some ⟨39,5,[.agg [I p.Frame.X.a,I p.Frame.X.b,I p.Frame.Y.a,I p.Frame.Y.b,an aX p.br]]⟩),(1005,some ⟨3,1,[I kerf]⟩)]) (Cc iL (fun q=>[(1000,some ⟨39,5,[.agg [I p.Frame.X.a,I p.Frame.X.b,I p.Frame.Y.a,I p.Frame.Y.b,an aX p.br]]⟩),(1001,some ⟨175,1,[.cE 136 [] [.vp [an cL q0]]]⟩),(1002,some ⟨44,1,[I q.1]⟩),(1003,some ⟨3,1,[I q.2]⟩),(1004,some ⟨39,5,[.agg [I p.Frame.X.a,I p.Frame.X.b,I p.Frame.Y.a,I p.Frame.Y.b,an aX p.br]]⟩),(1005,some ⟨3,1,[I kerf]⟩)]) (fun q=>[(1000,some ⟨39,5,[.agg [I p.Frame.X.a,I p.Frame.X.b,I p.Frame.Y.a,I p.Frame.Y.b,an aX p.br]]⟩),(1001,some ⟨175,1,[.cE 136 [] [.vp [an cL q0]]]⟩),(1002,some ⟨44,1,[I q.1]⟩),(1003,some ⟨3,1,[I q.2]⟩),(1004,some ⟨39,5,[.agg [I p.Frame.X.a,I p.Frame.X.b,I p.Frame.Y.a,I p.Frame.Y.b,an aX p.br]]⟩),(1005,some ⟨3,1,[I kerf]⟩)]) LP LQ LR LS LU rfl LV rfl rfl rfl rfl (LW _ _ rfl) (fun lim=>?_)) rfl rfl rfl rfl ⟨aB _ rfl,aB _ rfl,trivial⟩ rfl rfl ⟨⟨_,rfl,rfl,rfl,.inl ⟨rfl,aw rfl⟩⟩,⟨_,rfl,rfl,rfl,.inl ⟨rfl,aw rfl⟩⟩,⟨_,rfl,rfl,rfl,.inl ⟨rfl,aw rfl⟩⟩,⟨_,rfl,rfl,rfl,.inl ⟨rfl,aw rfl⟩⟩,⟨_,rfl,rfl,rfl,.inl ⟨rfl,aw rfl⟩⟩,⟨_,rfl,rfl,rfl,.inl ⟨rfl,aw rfl⟩⟩,trivial⟩ rfl (fun _=>rfl) (fun _=>rfl) (fun _=>⟨⟨_,rfl,rfl,rfl,.inl ⟨rfl,aw rfl⟩⟩,⟨_,rfl,rfl,rfl,.inl ⟨rfl,aw rfl⟩⟩,⟨_,rfl,rfl,rfl,.inl ⟨rfl,aw rfl⟩⟩,⟨_,rfl,rfl,rfl,.inl ⟨rfl,aw rfl⟩⟩,⟨_,rfl,rfl,rfl,.inl ⟨rfl,aw rfl⟩⟩,⟨_,rfl,rfl,rfl,.inl ⟨rfl,aw rfl⟩⟩,trivial⟩) (fun _=>⟨⟨_,rfl,rfl,rfl,.inl ⟨rfl,aw rfl⟩⟩,⟨_,rfl,rfl,rfl,.inl ⟨rfl,aw rfl⟩⟩,⟨_,rfl,rfl,rfl,.inl ⟨rfl,aw rfl⟩⟩,⟨_,rfl,rfl,rfl,.inl ⟨rfl,aw rfl⟩⟩,⟨_,rfl,rfl,rfl,.inl ⟨rfl,aw rfl⟩⟩,⟨_,rfl,rfl,rfl,.inl ⟨rfl,aw rfl⟩⟩,trivial⟩) (fun _=>rfl) (fun _=>rfl) (fun _=>rfl) (fun _=>rfl) LO rfl (fun vv hv=>?_) (fun aR hv=>?_)
       ·unfold LX at bI;refine eo ?_;refine dK bX rfl ?_;refine af 1 rfl ?_;refine dK bX rfl ?_;refine af 2 rfl ?_;refine yZ ?_;refine eo ?_;refine eo ?_;refine dK bX rfl ?_;refine Zr 3 rfl ?_;refine bg aX p.br ab rfl rfl rfl rfl rfl rfl ?_;refine af 1 rfl ?_;refine mg (b:=decide (((p.br.length:Nat):Int)≤i)) rfl (fun dS=>?_) (fun dS=>?_)
        ·replace bI:=ai bI dS;refine eo ?_;refine dK bX rfl ?_;refine af 1 rfl ?_;refine tT ?_;refine aF (aW ?_);have gY:=ar bI;subst gY;exact tV ⟨[(1000,some 1000),(1001,some 1001),(1002,some 1002),(1003,some 1003),(1004,some 1004),(1005,some 1005)],rfl,rfl,⟨⟨_,rfl,rfl,rfl,.inl ⟨rfl,aw rfl⟩⟩,⟨_,rfl,rfl,rfl,.inl ⟨rfl,aw rfl⟩⟩,⟨_,rfl,rfl,rfl,.inl ⟨rfl,aw rfl⟩⟩,⟨_,rfl,rfl,rfl,.inl ⟨rfl,aw rfl⟩⟩,⟨_,rfl,rfl,rfl,.inl ⟨rfl,aw rfl⟩⟩,⟨_,rfl,rfl,rfl,.inl ⟨rfl,aw rfl⟩⟩,trivial⟩⟩
        ·replace bI:=aj bI dS;refine mR ?_;refine ak ?_;refine eo ?_;refine dK bX rfl ?_;refine Zr 3 rfl ?_;obtain⟨e1,lS,bI⟩:=ah bI;refine bn aX p.br i e1 lS ab rfl rfl rfl rfl rfl rfl rfl rfl rfl ?_;refine af 3 rfl ?_;refine eo ?_;refine dK bX rfl ?_;refine Zr 2 rfl ?_;refine aM Us (Wu e1 e _ rfl) rfl rfl rfl rfl rfl rfl rfl ?_;refine af 1 rfl ?_;refine eo ?_;refine eo ?_;refine dK bX rfl ?_;refine Zr 3 rfl ?_;refine bd rfl rfl rfl (fun g20=>?_) (fun g20=>?_)
         ·rw [g20];replace bI:=ai bI g20;refine af 4 rfl ?_;refine mg (b:=e1.Kind==1) rfl (fun fJ=>?_) (fun fJ=>?_)
          ·replace bI:=ai bI fJ;refine dK bX rfl ?_;refine Zr 5 rfl ?_;obtain⟨cv,jz,bI⟩:=ah bI;refine JD (L:=[]) agM (alQ e.en e1.At q0 cv jz) rfl rfl rfl rfl rfl trivial ⟨aB _ rfl,aB _ rfl,aB _ rfl,trivial⟩ rfl rfl (fun h=>absurd rfl h) rfl ?_;refine af 1 rfl ?_;refine eo ?_;refine eo ?_;refine dK bX rfl ?_;refine af 2 rfl ?_;refine mg (b:=cv !=0) rfl (fun gE=>?_) (fun gE=>?_)
           ·replace bI:=ai bI gE;refine eo ?_;refine dK bX rfl ?_;refine af 2 rfl ?_;refine tT ?_;refine aF (aW ?_);have fU:=ar bI;subst fU;exact tV ⟨[(1000,some 1000),(1001,some 1001),(1002,some 1002),(1003,some 1003),(1004,some 1004),(1005,some 1005)],rfl,rfl,⟨⟨_,rfl,rfl,rfl,.inl ⟨rfl,aw rfl⟩⟩,⟨_,rfl,rfl,rfl,.inl ⟨rfl,aw rfl⟩⟩,⟨_,rfl,rfl,rfl,.inl ⟨rfl,aw rfl⟩⟩,⟨_,rfl,rfl,rfl,.inl ⟨rfl,aw rfl⟩⟩,⟨_,rfl,rfl,rfl,.inl ⟨rfl,aw rfl⟩⟩,⟨_,rfl,rfl,rfl,.inl ⟨rfl,aw rfl⟩⟩,trivial⟩⟩
           ·replace bI:=aj bI gE;refine mR ?_;refine ak ?_;refine dK bX rfl ?_;refine Zr 3 rfl (aA nd (a_ ?_));have kU:=ar bI;subst kU;exact oO ⟨[(1000,some 1000),(1001,some 1001),(1002,some 1002),(1003,some 1003),(1004,some 1004),(1005,some 1005)],rfl,rfl,⟨⟨_,rfl,rfl,rfl,.inl ⟨rfl,aw rfl⟩⟩,⟨_,rfl,rfl,rfl,.inl ⟨rfl,aw rfl⟩⟩,⟨_,rfl,rfl,rfl,.inl ⟨rfl,aw rfl⟩⟩,⟨_,rfl,rfl,rfl,.inl ⟨rfl,aw rfl⟩⟩,⟨_,rfl,rfl,rfl,.inl ⟨rfl,aw rfl⟩⟩,⟨_,rfl,rfl,rfl,.inl ⟨rfl,aw rfl⟩⟩,trivial⟩⟩
          ·replace bI:=aj bI fJ;refine mR ?_;refine ak ?_;refine eo ?_;refine eo ?_;refine dK bX rfl ?_;refine af 2 rfl ?_;refine mg (b:=(jf e1 e)!=0) rfl (fun mV=>?_) (fun mV=>?_)
           ·replace bI:=ai bI mV;refine eo ?_;refine dK bX rfl ?_;refine af 2 rfl ?_;refine tT ?_;refine aF (aW ?_);have im:=ar bI;subst im;exact tV ⟨[(1000,some 1000),(1001,some 1001),(1002,some 1002),(1003,some 1003),(1004,some 1004),(1005,some 1005)],rfl,rfl,⟨⟨_,rfl,rfl,rfl,.inl ⟨rfl,aw rfl⟩⟩,⟨_,rfl,rfl,rfl,.inl ⟨rfl,aw rfl⟩⟩,⟨_,rfl,rfl,rfl,.inl ⟨rfl,aw rfl⟩⟩,⟨_,rfl,rfl,rfl,.inl ⟨rfl,aw rfl⟩⟩,⟨_,rfl,rfl,rfl,.inl ⟨rfl,aw rfl⟩⟩,⟨_,rfl,rfl,rfl,.inl ⟨rfl,aw rfl⟩⟩,trivial⟩⟩
           ·replace bI:=aj bI mV;refine mR ?_;refine ak ?_;refine dK bX rfl ?_;refine Zr 3 rfl (aA nd (a_ ?_));have lP:=ar bI;subst lP;exact oO ⟨[(1000,some 1000),(1001,some 1001),(1002,some 1002),(1003,some 1003),(1004,some 1004),(1005,some 1005)],rfl,rfl,⟨⟨_,rfl,rfl,rfl,.inl ⟨rfl,aw rfl⟩⟩,⟨_,rfl,rfl,rfl,.inl ⟨rfl,aw rfl⟩⟩,⟨_,rfl,rfl,rfl,.inl ⟨rfl,aw rfl⟩⟩,⟨_,rfl,rfl,rfl,.inl ⟨rfl,aw rfl⟩⟩,⟨_,rfl,rfl,rfl,.inl ⟨rfl,aw rfl⟩⟩,⟨_,rfl,rfl,rfl,.inl ⟨rfl,aw rfl⟩⟩,trivial⟩⟩
         ·rw [g20];replace bI:=aj bI g20;refine af 4 rfl ?_;refine mg rfl Zx (fun aL=>?_);clear aL;refine mR ?_;refine ak ?_;refine eo ?_;refine eo ?_;refine dK bX rfl ?_;refine af 2 rfl ?_;refine mg (b:=(jf e1 e)!=0) rfl (fun kN=>?_) (fun kN=>?_)
          ·replace bI:=ai bI kN;refine eo ?_;refine dK bX rfl ?_;refine af 2 rfl ?_;refine tT ?_;refine aF (aW ?_);have kX:=ar bI;subst kX;exact tV ⟨[(1000,some 1000),(1001,some 1001),(1002,some 1002),(1003,some 1003),(1004,some 1004),(1005,some 1005)],rfl,rfl,⟨⟨_,rfl,rfl,rfl,.inl ⟨rfl,aw rfl⟩⟩,⟨_,rfl,rfl,rfl,.inl ⟨rfl,aw rfl⟩⟩,⟨_,rfl,rfl,rfl,.inl ⟨rfl,aw rfl⟩⟩,⟨_,rfl,rfl,rfl,.inl ⟨rfl,aw rfl⟩⟩,⟨_,rfl,rfl,rfl,.inl ⟨rfl,aw rfl⟩⟩,⟨_,rfl,rfl,rfl,.inl ⟨rfl,aw rfl⟩⟩,trivial⟩⟩
          ·replace bI:=aj bI kN;refine mR ?_;refine ak ?_;refine dK bX rfl ?_;refine Zr 3 rfl (aA nd (a_ ?_));have oU:=ar bI;subst oU;exact oO ⟨[(1000,some 1000),(1001,some 1001),(1002,some 1002),(1003,some 1003),(1004,some 1004),(1005,some 1005)],rfl,rfl,⟨⟨_,rfl,rfl,rfl,.inl ⟨rfl,aw rfl⟩⟩,⟨_,rfl,rfl,rfl,.inl ⟨rfl,aw rfl⟩⟩,⟨_,rfl,rfl,rfl,.inl ⟨rfl,aw rfl⟩⟩,⟨_,rfl,rfl,rfl,.inl ⟨rfl,aw rfl⟩⟩,⟨_,rfl,rfl,rfl,.inl ⟨rfl,aw rfl⟩⟩,⟨_,rfl,rfl,rfl,.inl ⟨rfl,aw rfl⟩⟩,trivial⟩⟩
       ·subst hv;replace bN:=bL bN;refine qb (acc:=[]) 8 rfl ?_;refine Zr 5 rfl ?_;refine bg aX p.br ab rfl rfl rfl rfl rfl rfl ?_;refine Zr 2 rfl (aA nd ?_);refine yT rfl ?_;refine ak ?_;refine eC ?_;refine ao (b:=decide (((p.br.length:Nat):Int)≤i)) rfl (fun LY=>?_) (fun LY=>?_)
        ·replace bN:=ai bN LY;refine Ze (aW (aF ?_));obtain⟨t,qf,hq⟩:=aZ bN;subst hq;have hq:t=_:=jN;subst hq;refine aF (aW ?_);have sF:=ar qf;subst sF;refine a8 ⟨_,⟨_,rfl,rfl⟩,[(1000,some 1000),(1001,some 1001),(1002,some 1002),(1003,some 1003),(1004,some 1004),(1005,some 1005)],rfl,rfl,⟨⟨_,rfl,rfl,rfl,.inl ⟨rfl,aw rfl⟩⟩,⟨_,rfl,rfl,rfl,.inl ⟨rfl,aw rfl⟩⟩,⟨_,rfl,rfl,rfl,.inl ⟨rfl,aw rfl⟩⟩,⟨_,rfl,rfl,rfl,.inl ⟨rfl,aw rfl⟩⟩,⟨_,rfl,rfl,rfl,.inl ⟨rfl,aw rfl⟩⟩,⟨_,rfl,rfl,rfl,.inl ⟨rfl,aw rfl⟩⟩,trivial⟩⟩
        ·replace bN:=aj bN LY;refine Zk ?_;refine eC ?_;refine aq 3 rfl ?_;obtain⟨e2,mi,bN⟩:=ah bN;refine bn aX p.br i e2 mi ab rfl rfl rfl rfl rfl rfl rfl rfl rfl ?_;refine af 3 rfl (aq 2 rfl ?_);refine aM vO (xm e2.Kind _ rfl) rfl rfl rfl rfl rfl rfl rfl ?_;refine Zn ?_;refine ao (b:=iN e2.Kind) rfl (fun qt=>?_) (fun qt=>?_)
         ·replace bN:=ai bN qt;refine aq 4 rfl ?_;obtain⟨pv,wB,bN⟩:=dH bN;refine aM BW (DS e.en e2 kerf pv wB) rfl rfl rfl rfl rfl rfl rfl ?_;refine af 10 rfl (aQ 12 rfl ?_);obtain⟨l1,zC,bN⟩:=ah bN;refine dY fT l ([(⟨pv.2.2,U (e.level+1)⟩:cB),(⟨pv.1,U (e.level+1)⟩:cB)]) l1 zC (fun _=>rfl) rfl rfl ab rfl rfl rfl rfl rfl rfl rfl rfl rfl rfl rfl rfl rfl rfl rfl rfl rfl ?_;refine Zr 1 rfl (aA nd (a_ (ak ?_)));refine eC ?_;refine aQ 3 rfl (aA nd ?_);have qB:=ar bN;subst qB;refine ak ⟨rfl,(l1,U (i+1),vv.1,vv.2),[(4,some 72),(1002,some 1002),(1003,some 1003),(1004,some 1004),(1005,some 1005),(1000,some 1000),(1001,some 1001)],⟨rfl,rfl,rfl,rfl,rfl,⟨⟨rfl,rfl,rfl⟩,ag _ rfl,trivial⟩,⟨⟨_,rfl,rfl,rfl,aD (enc:=fT) l1 (fun _=>rfl)⟩,⟨_,rfl,rfl,rfl,.inl ⟨rfl,aw rfl⟩⟩,⟨_,rfl,rfl,rfl,.inl ⟨rfl,aw rfl⟩⟩,trivial⟩⟩,jN⟩
         ·replace bN:=aj bN qt;refine b_ (a_ (ak ?_));refine eC ?_;refine aQ 3 rfl (aA nd ?_);have qu:=ar bN;subst qu;refine ak ⟨rfl,(l,U (i+1),vv.1,vv.2),[(4,some 4),(1002,some 1002),(1003,some 1003),(1004,some 1004),(1005,some 1005),(1000,some 1000),(1001,some 1001)],⟨rfl,rfl,rfl,rfl,rfl,⟨⟨rfl,rfl,rfl⟩,ag _ rfl,trivial⟩,⟨⟨_,rfl,rfl,rfl,aD (enc:=fT) l (fun _=>rfl)⟩,⟨_,rfl,rfl,rfl,.inl ⟨rfl,aw rfl⟩⟩,⟨_,rfl,rfl,rfl,.inl ⟨rfl,aw rfl⟩⟩,trivial⟩⟩,jN⟩
       ·subst hv;replace bN:=dI bN;refine af 8 rfl ?_;refine ao rfl (fun aL=>?_) Zx;clear aL;refine Ze (aW (aF ?_));obtain⟨t1,Cq,hq⟩:=aZ bN;subst hq;have hq:t1=_:=jN;subst hq;refine aF (aW ?_);have qv:=ar Cq;subst qv;refine a8 ⟨_,⟨rfl,_,rfl,rfl⟩,[(1000,some 1000),(1001,some 1001),(1002,some 1002),(1003,some 1003),(1004,some 1004),(1005,some 1005)],rfl,rfl,⟨⟨_,rfl,rfl,rfl,.inl ⟨rfl,aw rfl⟩⟩,⟨_,rfl,rfl,rfl,.inl ⟨rfl,aw rfl⟩⟩,⟨_,rfl,rfl,rfl,.inl ⟨rfl,aw rfl⟩⟩,⟨_,rfl,rfl,rfl,.inl ⟨rfl,aw rfl⟩⟩,⟨_,rfl,rfl,rfl,.inl ⟨rfl,aw rfl⟩⟩,⟨_,rfl,rfl,rfl,.inl ⟨rfl,aw rfl⟩⟩,trivial⟩⟩
      ·replace bN:=aj bN fa;refine bP (aY ?_);obtain⟨t2,oQ,hq⟩:=aZ bN;subst hq;have hq:t2=_:=jN;subst hq;refine aY (bQ ?_);have CQ:=ar oQ;subst CQ;refine od ⟨_,⟨_,rfl,rfl⟩,[(1000,some 1000),(1001,some 1001),(1002,some 1002),(1003,some 1003),(1004,some 1004),(1005,some 1005)],rfl,rfl,⟨⟨_,rfl,rfl,rfl,.inl ⟨rfl,aw rfl⟩⟩,⟨_,rfl,rfl,rfl,.inl ⟨rfl,aw rfl⟩⟩,⟨_,rfl,rfl,rfl,.inl ⟨rfl,aw rfl⟩⟩,⟨_,rfl,rfl,rfl,.inl ⟨rfl,aw rfl⟩⟩,⟨_,rfl,rfl,rfl,.inl ⟨rfl,aw rfl⟩⟩,⟨_,rfl,rfl,rfl,.inl ⟨rfl,aw rfl⟩⟩,trivial⟩⟩
     ·subst hv;replace h:=bL h;refine ay (aq 3 rfl ?_);refine bg aX p.br ab rfl rfl rfl rfl rfl rfl ?_;refine af 1 rfl ?_;refine ao (b:=decide (cI.2<((p.br.length:Nat):Int))) rfl (fun LZ=>?_) (fun LZ=>?_)
      ·replace h:=ai h LZ;refine aa 1 rfl (Ze ?_);have Dh:=ar h;subst Dh;refine vW ?_;refine sn ab rfl rfl ?_;exact(aB _ rfl)
      ·replace h:=aj h LZ;refine Zk (aa 1 rfl (aK ?_));have qj:=ar h;subst qj;refine vW ?_;refine sn ab rfl rfl ?_;exact(aB _ rfl)
     ·subst hv;replace h:=dI h;have Cn:=ar h;subst Cn;refine sn ab rfl rfl ?_;exact(aB _ rfl)
def Hm (p:dR) (l:List bh) (kerf:Int):Option Int:=
 (β (Hl p kerf l) (fun cv=>some cv))
theorem alW (p:dR) (l:List bh) (kerf:Int) (r:Int) (h:Hm p l kerf=some r):Holds Tryz.prog 77 [oK p,(an cL) l,I kerf] [] (I r) []:=by
 unfold Hm at h;refine bm Tryz.func77 rfl Tryz.ntmps77 rfl rfl rfl (fun lim=>?_);refine aa 3 rfl (aq 3 rfl ?_);obtain⟨cv,bx,h⟩:=ah h;refine oG (L:=[(4,some ⟨26,1,[an cL l]⟩)]) JM (alV p kerf l cv bx) rfl rfl rfl ⟨rfl,List.not_mem_nil,trivial⟩ ⟨aB _ rfl,aB _ rfl,⟨rfl,trivial,⟨aiT rfl rfl rfl,trivial⟩⟩,trivial⟩ rfl rfl (fun _=>rfl) rfl ?_;refine af 1 rfl (aK ?_);exact Zq h rfl rfl rfl
def AL (l:List aV) (d:List Df) (c:List bh) (p:dR) (s:cS) (vr:da):Option Int:=
 (β (rI l) (fun cv=>(bif(cv !=0) then some cv else(β (j_ d) (fun bU=>(bif(bU !=0) then some bU else(β (nk c) (fun iK=>(bif(iK !=0) then some iK else(bif((lV s vr)!=0) then some (lV s vr) else(β (Hm p c s.bj) (fun wU=>some wU))))))))))))
theorem Ww (l:List aV) (d:List Df) (c:List bh) (p:dR) (s:cS) (vr:da) (r:Int) (h:AL l d c p s vr=some r):Holds Tryz.prog 114 [(an cy) l,(an cq) d,(an cL) c,oK p,oJ s,pB vr] [] (I r) []:=by
 unfold AL at h;refine bm Tryz.func114 rfl Tryz.ntmps114 rfl rfl rfl (fun lim=>?_);refine aa 4 rfl (ay (aq 1 rfl ?_));obtain⟨cv,bx,h⟩:=ah h;refine aM BU (Da l cv bx) rfl rfl rfl rfl rfl rfl rfl ?_;refine af 1 rfl (aa 2 rfl ?_);refine ao (b:=cv !=0) rfl (fun c2=>?_) (fun c2=>?_)
 ·replace h:=ai h c2;refine aa 2 rfl (Ze ?_);exact Zq h rfl rfl rfl
 ·replace h:=aj h c2;refine Zk (ay (aq 1 rfl ?_));obtain⟨bU,dt,h⟩:=ah h;refine aM yI (zg d bU dt) rfl rfl rfl rfl rfl rfl rfl ?_;refine af 1 rfl (aa 2 rfl ?_);refine ao (b:=bU !=0) rfl (fun c5=>?_) (fun c5=>?_)
  ·replace h:=ai h c5;refine aa 2 rfl (Ze ?_);exact Zq h rfl rfl rfl
  ·replace h:=aj h c5;refine Zk (ay (aq 1 rfl ?_));obtain⟨iK,eU,h⟩:=ah h;refine aM yH (Ad c iK eU) rfl rfl rfl rfl rfl rfl rfl ?_;refine af 1 rfl (aa 2 rfl ?_);refine ao (b:=iK !=0) rfl (fun c8=>?_) (fun c8=>?_)
   ·replace h:=ai h c8;refine aa 2 rfl (Ze ?_);exact Zq h rfl rfl rfl
   ·replace h:=aj h c8;refine Zk (ay (aq 2 rfl ?_));refine aM JL (Lv s vr _ rfl) rfl rfl rfl rfl rfl rfl rfl ?_;refine af 1 rfl (aa 2 rfl ?_);refine ao (b:=(lV s vr)!=0) rfl (fun db=>?_) (fun db=>?_)
    ·replace h:=ai h db;refine aa 2 rfl (Ze ?_);exact Zq h rfl rfl rfl
    ·replace h:=aj h db;refine Zk (aq 4 rfl ?_);obtain⟨wU,dZ,h⟩:=ah h;refine aM agm (alW p c s.bj wU dZ) rfl rfl rfl rfl rfl rfl rfl ?_;refine af 1 rfl (aK ?_);exact Zq h rfl rfl rfl
def Hn (p:dR) (l:List gA) (i:Int) (x:cB):Option ((List gA)⊕(List gA)):=
 (β (aC p.br i) (fun e=>(bif(e.Kind==0) then(β (cK 40 l ([(⟨x.en,-1⟩:gA)])) (fun l1=>some (κ l1))) else(bif(e.Kind==1) then(β (cK 40 l ([(⟨x.en,e.At⟩:gA)])) (fun l2=>some (κ l2))) else some (κ l)))))
def DW (p:dR) (kerf:Int) (dp:List cB) (i:Int) (w:List gA):Option (((List cB)×Int×(List gA))⊕((List gA)⊕(List gA))):=
 (bif(decide (0<((dp.length:Nat):Int))) then(β (aC dp (U (((dp.length:Nat):Int) -1))) (fun e=>(β (kJ dp (U (((dp.length:Nat):Int) -1))) (fun l=>(β (Hn p w i e) (fun iL=>Sum.elim (fun vv=>(bif(decide (((p.br.length:Nat):Int)≤i)) then some (ι (κ vv)) else(β (aC p.br i) (fun e2=>(bif(iN e2.Kind) then(cU (cJ e.en e2 kerf) (fun pv=>(β (cK 40 l ([(⟨pv.2.2,U (e.level+1)⟩:cB),(⟨pv.1,U (e.level+1)⟩:cB)])) (fun l3=>some (κ (l3,U (i+1),vv)))))) else some (κ (l,U (i+1),vv))))))) (fun aR=>some (ι (ι aR))) iL)))))) else some (ι (κ w)))
def DX (p:dR) (kerf:Int):Option ((List gA)×Int):=
 (β (xw p kerf) (fun cv=>(bif(cv !=0) then some ([],cv) else(β (bb (fun q=>DW p kerf q.1 q.2.1 q.2.2) ([(⟨p.Frame,1⟩:cB)],0,([]:List gA))) (fun vz=>Sum.elim (fun cI=>some (cI,0)) (fun _=>none) vz)))))
theorem alX (p:dR) (kerf:Int) (r:(List gA)×Int) (h:DX p kerf=some r):Holds Tryz.prog 33 [oK p,I kerf] [] (.bR [(an eS) r.1,I r.2]) []:=by
 unfold DX at h;refine B3 Tryz.func33 rfl Tryz.ntmps33 rfl rfl (fun lim=>?_);refine jX ?_;refine fY 3 rfl ?_;refine jX ?_;refine aq 2 rfl ?_;obtain⟨cv,bx,h⟩:=ah h;refine oG (L:=[]) JM (Wv p kerf cv bx) rfl rfl rfl trivial ⟨aB _ rfl,aB _ rfl,aB _ rfl,trivial⟩ rfl rfl (fun h=>absurd rfl h) rfl ?_;refine af 1 rfl (aa 2 rfl ?_);refine ao (b:=cv !=0) rfl (fun c2=>?_) (fun c2=>?_)
 ·replace h:=ai h c2;refine aa 3 rfl (Ze ?_);cases h;refine a8 (bp ab rfl rfl ?_);exact⟨cF,aB _ rfl,trivial⟩
 ·replace h:=aj h c2;refine Zk ?_;refine jX ?_;refine fY 1 rfl ?_;refine B5 ?_;refine aQ 2 rfl ?_;refine iE (.cE 139 [] [.ref 700 0 0,.ref 701 0 0]) [] [(700,some ⟨39,5,[.agg [I p.Frame.X.a,I p.Frame.X.b,I p.Frame.Y.a,I p.Frame.Y.b,an aX p.br]]⟩),(701,some ⟨3,1,[I kerf]⟩)] [] [(700,some 999),(701,some 998)] FV (Hk p kerf) rfl rfl rfl rfl rfl trivial ⟨aB _ rfl,aB _ rfl,trivial⟩ rfl rfl trivial rfl rfl ⟨⟨_,rfl,rfl,rfl,.inl ⟨rfl,aw rfl⟩⟩,⟨_,rfl,rfl,rfl,.inl ⟨rfl,aw rfl⟩⟩,trivial⟩ ⟨rfl,trivial,⟨rfl,rfl,rfl⟩,⟨rfl,rfl,rfl⟩,trivial⟩ rfl (fun h=>absurd rfl h) rfl rfl rfl ?_;refine Zn ?_;obtain⟨vz,bV,h⟩:=ah h;refine Cb (X:=List gA) (Y:=List gA) (t0:=[(2,.ref 1000 0 0),(7,.ref 1001 0 0)]) (M:=[(1000,some ⟨39,5,[.agg [I p.Frame.X.a,I p.Frame.X.b,I p.Frame.Y.a,I p.Frame.Y.b,an aX p.br]]⟩),(1001,some ⟨109,1,[.arr 1191 0 ((([]:List gA)).length)]⟩),(1191,some ⟨121,5,([]:List gA).map eS⟩),(1002,some ⟨39,5,[.agg [I p.Frame.X.a,I p.Frame.X.b,I p.Frame.Y.a,I p.Frame.Y.b,an aX p.br]]⟩),(1003,some ⟨3,1,[I kerf]⟩)]) (caps':=[.ref 1002 0 0,.ref 1003 0 0]) (fun l=>[(0,.sc (.func (.yield l) #[] #[])),(1,.ref 1002 0 0),(2,.ref 1003 0 0)]) [(1000,some 2),(1001,some 7),(1191,none),(1002,some 700),(1003,some 701)] [(1000,some 2),(1001,some 7)] vz (fun q=>[(1000,some ⟨39,5,[.agg [I p.Frame.X.a,I p.Frame.X.b,I p.Frame.Y.a,I p.Frame.Y.b,an aX p.br]]⟩),(1001,some ⟨109,1,[.arr 991 0 q.length]⟩),(991,some ⟨121,5,q.map eS⟩),(1002,some ⟨39,5,[.agg [I p.Frame.X.a,I p.Frame.X.b,I p.Frame.Y.a,I p.Frame.Y.b,an aX p.br]]⟩),(1003,some ⟨3,1,[I kerf]⟩)]) (fun q=>[(1000,some ⟨39,5,[.agg [I p.Frame.X.a,I p.Frame.X.b,I p.Frame.Y.a,I p.Frame.Y.b,an aX p.br]]⟩),(1001,some ⟨109,1,[.arr 991 0 q.length]⟩),(991,some ⟨121,5,q.map eS⟩),(1002,some ⟨39,5,[.agg [I p.Frame.X.a,I p.Frame.X.b,I p.Frame.Y.a,I p.Frame.Y.b,an aX p.br]]⟩),(1003,some ⟨3,1,[I kerf]⟩)]) rfl Tryz.func139 rfl Tryz.ntmps139 rfl (B6 F0) rfl rfl rfl rfl ⟨⟨_,rfl,rfl,rfl,.inl ⟨rfl,aw rfl⟩⟩,⟨_,rfl,rfl,rfl,.inr ⟨⟨⟨rfl,rfl,rfl⟩,trivial⟩,⟨rfl,trivial⟩⟩⟩,rfl,⟨_,rfl,rfl,rfl,.inl ⟨rfl,aw rfl⟩⟩,⟨_,rfl,rfl,rfl,.inl ⟨rfl,aw rfl⟩⟩,trivial⟩ ⟨⟨rfl,rfl,rfl⟩,⟨rfl,rfl,rfl⟩,trivial⟩ ⟨⟨rfl,rfl,rfl⟩,⟨rfl,rfl,rfl⟩,trivial⟩ rfl rfl (fun _=>rfl) (fun _=>rfl) (fun _=>rfl) (fun cx4 ly4 kn4 rc4 L0 L1 L2 L3 L4 L5 L6 L7=>?_) (fun cI hv lim=>?_) (fun _ hv=>?_)
  ·skip;refine fj ?_;refine eC ?_;refine fY 5 rfl ?_;refine fj ?_;refine eC ?_;refine fY 1 rfl ?_;refine rq ?_;refine B' (X:=(List cB)×Int×(List gA)) (Y:=(List gA)⊕(List gA)) [0,1,2] [1002,1003,1000] (fun q=>[(4,.arr 4 0 q.1.length),(5,I q.2.1)]) (fun q=>[(4,some ⟨180,5,q.1.map fT⟩),(990,some ⟨121,5,q.2.2.map eS⟩),(1001,some ⟨109,1,[.arr 990 0 q.2.2.length]⟩)]) (fun q=>DW p kerf q.1 q.2.1 q.2.2) ([(⟨p.Frame,1⟩:cB)],0,([]:List gA)) [(4,some 14),(990,some 1191),(1001,some 1001),(1002,some 1002),(1003,some 1003),(1000,some 1000)] bV ⟨rfl,rfl,rfl,rfl,rfl,⟨⟨rfl,rfl,rfl⟩,ag _ rfl,trivial⟩,⟨⟨_,rfl,rfl,rfl,aD (enc:=fT) ([(⟨p.Frame,1⟩:cB)]) (fun _=>rfl)⟩,⟨_,rfl,rfl,rfl,aD (enc:=eS) ([]:List gA) (fun _=>rfl)⟩,⟨_,rfl,rfl,rfl,.inr ⟨⟨⟨rfl,rfl,rfl⟩,trivial⟩,⟨rfl,trivial⟩⟩⟩,trivial⟩⟩ (fun x vR gS bc fC=>?_);obtain⟨dp,i,w⟩:=x;change DW p kerf dp i w=_ at bc;unfold DW at bc;refine fj ?_;refine eC ?_;refine aa 3 rfl ?_;refine ao (b:=decide (0<((dp.length:Nat):Int))) rfl (fun c7=>?_) (fun c7=>?_)
   ·replace bc:=ai bc c7;refine Zk ?_;refine fj ?_;refine rq ?_;refine fj ?_;refine eC ?_;refine aQ 4 rfl ?_;obtain⟨e,eX,bc⟩:=ah bc;refine ew fT dp (U (((dp.length:Nat):Int) -1)) e eX rfl ab rfl rfl rfl rfl rfl rfl rfl rfl rfl rfl ?_;refine gO fT dp (U (((dp.length:Nat):Int) -1)) e _ eX ab rfl rfl rfl rfl rfl rfl rfl ?_;refine af 2 rfl ?_;refine fj ?_;refine eC ?_;refine aQ 4 rfl ?_;obtain⟨l,eN,bc⟩:=ah bc;refine rz fT dp l (U (((dp.length:Nat):Int) -1)) eN rfl ab rfl rfl rfl rfl rfl rfl rfl rfl rfl rfl rfl ?_;refine af 1 rfl ?_;refine fj ?_;refine fj ?_;refine B8 ?_;refine qb (acc:=[]) 3 rfl ?_;refine Zr 3 rfl (aA nd ?_);obtain⟨iL,bD,bc⟩:=ah bc;refine Ca (M:=[(1000,some ⟨39,5,[.agg [I p.Frame.X.a,I p.Frame.X.b,I p.Frame.Y.a,I p.Frame.Y.b,an aX p.br]]⟩),(1001,some ⟨109,1,[.arr 1191 0 w.length]⟩),(1191,some ⟨121,5,w.map eS⟩),(1002,some ⟨39,5,[.agg [I p.Frame.X.a,I p.Frame.X.b,I p.Frame.Y.a,I p.Frame.Y.b,an aX p.br]]⟩),(1003,some ⟨3,1,[I kerf]⟩)]) iL [(1000,some 1000),(1001,some 1001),(1191,some 990),(1002,some 1002),(1003,some 1003)] [(1000,some 1000),(1001,some 1001),(600,some 991),(1002,some 1002),(1003,some 1003)] (fun q=>[(1000,some ⟨39,5,[.agg [I p.Frame.X.a,I p.Frame.X.b,I p.Frame.Y.a,I p.Frame.Y.b,an aX p.br]]⟩),(1001,some ⟨109,1,[.arr 600 0 q.length]⟩),(600,some ⟨121,5,q.map eS⟩),(1002,some ⟨39,5,[.agg [I p.Frame.X.a,I p.Frame.X.b,I p.Frame.Y.a,I p.Frame.Y.b,an aX p.br]]⟩),(1003,some ⟨3,1,[I kerf]⟩)]) (fun q=>[(1000,some ⟨39,5,[.agg [I p.Frame.X.a,I p.Frame.X.b,I p.Frame.Y.a,I p.Frame.Y.b,an aX p.br]]⟩),(1001,some ⟨109,1,[.arr 600 0 q.length]⟩),(600,some ⟨121,5,q.map eS⟩),(1002,some ⟨39,5,[.agg [I p.Frame.X.a,I p.Frame.X.b,I p.Frame.Y.a,I p.Frame.Y.b,an aX p.br]]⟩),(1003,some ⟨3,1,[I kerf]⟩)]) (Cc iL (fun q=>[(1000,some ⟨39,5,[.agg [I p.Frame.X.a,I p.Frame.X.b,I p.Frame.Y.a,I p.Frame.Y.b,an aX p.br]]⟩),(1001,some ⟨109,1,[.arr 991 0 q.length]⟩),(991,some ⟨121,5,q.map eS⟩),(1002,some ⟨39,5,[.agg [I p.Frame.X.a,I p.Frame.X.b,I p.Frame.Y.a,I p.Frame.Y.b,an aX p.br]]⟩),(1003,some ⟨3,1,[I kerf]⟩)]) (fun q=>[(1000,some ⟨39,5,[.agg [I p.Frame.X.a,I p.Frame.X.b,I p.Frame.Y.a,I p.Frame.Y.b,an aX p.br]]⟩),(1001,some ⟨109,1,[.arr 991 0 q.length]⟩),(991,some ⟨121,5,q.map eS⟩),(1002,some ⟨39,5,[.agg [I p.Frame.X.a,I p.Frame.X.b,I p.Frame.Y.a,I p.Frame.Y.b,an aX p.br]]⟩),(1003,some ⟨3,1,[I kerf]⟩)]) L1 L2 L3 L4 L5 rfl L6 rfl rfl rfl rfl (L7 _ _ rfl) (fun lim=>?_)) rfl rfl rfl rfl ⟨aB _ rfl,aB _ rfl,trivial⟩ rfl rfl ⟨⟨_,rfl,rfl,rfl,.inl ⟨rfl,aw rfl⟩⟩,⟨_,rfl,rfl,rfl,.inr ⟨⟨⟨rfl,rfl,rfl⟩,trivial⟩,⟨rfl,trivial⟩⟩⟩,⟨_,rfl,rfl,rfl,aD (enc:=eS) w (fun _=>rfl)⟩,⟨_,rfl,rfl,rfl,.inl ⟨rfl,aw rfl⟩⟩,⟨_,rfl,rfl,rfl,.inl ⟨rfl,aw rfl⟩⟩,trivial⟩ rfl (fun _=>rfl) (fun _=>rfl) (fun _=>⟨⟨_,rfl,rfl,rfl,.inl ⟨rfl,aw rfl⟩⟩,⟨_,rfl,rfl,rfl,.inr ⟨⟨⟨rfl,rfl,rfl⟩,trivial⟩,⟨rfl,trivial⟩⟩⟩,⟨_,rfl,rfl,rfl,aD (enc:=eS) _ (fun _=>rfl)⟩,⟨_,rfl,rfl,rfl,.inl ⟨rfl,aw rfl⟩⟩,⟨_,rfl,rfl,rfl,.inl ⟨rfl,aw rfl⟩⟩,trivial⟩) (fun _=>⟨⟨_,rfl,rfl,rfl,.inl ⟨rfl,aw rfl⟩⟩,⟨_,rfl,rfl,rfl,.inr ⟨⟨⟨rfl,rfl,rfl⟩,trivial⟩,⟨rfl,trivial⟩⟩⟩,⟨_,rfl,rfl,rfl,aD (enc:=eS) _ (fun _=>rfl)⟩,⟨_,rfl,rfl,rfl,.inl ⟨rfl,aw rfl⟩⟩,⟨_,rfl,rfl,rfl,.inl ⟨rfl,aw rfl⟩⟩,trivial⟩) (fun _=>rfl) (fun _=>rfl) (fun _=>rfl) (fun _=>rfl) L0 rfl (fun vv hv=>?_) (fun aR hv=>?_)
    ·unfold Hn at bD;refine eo ?_;refine dK bX rfl ?_;refine af 1 rfl ?_;refine dK bX rfl ?_;refine af 2 rfl ?_;refine yZ ?_;refine eo ?_;refine dK bX rfl ?_;refine Zr 3 rfl ?_;obtain⟨e1,eG,bD⟩:=ah bD;refine bn aX p.br i e1 eG ab rfl rfl rfl rfl rfl rfl rfl rfl rfl ?_;refine af 3 rfl ?_;refine eo ?_;refine dK bX rfl ?_;refine af 2 rfl ?_;refine yZ ?_;refine eo ?_;refine dK bX rfl ?_;refine af 2 rfl ?_;refine mg (b:=e1.Kind==0) rfl (fun dn=>?_) (fun dn=>?_)
     ·replace bD:=ai bD dn;refine dK bX rfl ?_;refine Zr 5 rfl ?_;obtain⟨l1,fV,bD⟩:=ah bD;refine dY eS w ([(⟨e.en,-1⟩:gA)]) l1 fV (fun _=>rfl) rfl rfl ab rfl rfl rfl rfl rfl rfl rfl rfl rfl rfl rfl rfl rfl rfl rfl rfl rfl ?_;refine Zr 1 rfl (aA nd (a_ (a_ ?_)));have ju:=ar bD;subst ju;exact oO ⟨[(1000,some 1000),(1001,some 1001),(991,some 36),(1002,some 1002),(1003,some 1003)],rfl,rfl,⟨⟨_,rfl,rfl,rfl,.inl ⟨rfl,aw rfl⟩⟩,⟨_,rfl,rfl,rfl,.inr ⟨⟨⟨rfl,rfl,rfl⟩,trivial⟩,⟨rfl,trivial⟩⟩⟩,⟨_,rfl,rfl,rfl,aD (enc:=eS) l1 (fun _=>rfl)⟩,⟨_,rfl,rfl,rfl,.inl ⟨rfl,aw rfl⟩⟩,⟨_,rfl,rfl,rfl,.inl ⟨rfl,aw rfl⟩⟩,trivial⟩⟩
     ·replace bD:=aj bD dn;refine eo ?_;refine dK bX rfl ?_;refine af 2 rfl ?_;refine mg (b:=e1.Kind==1) rfl (fun gD=>?_) (fun gD=>?_)
      ·replace bD:=ai bD gD;refine dK bX rfl ?_;refine Zr 7 rfl ?_;obtain⟨l2,mj,bD⟩:=ah bD;refine dY eS w ([(⟨e.en,e1.At⟩:gA)]) l2 mj (fun _=>rfl) rfl rfl ab rfl rfl rfl rfl rfl rfl rfl rfl rfl rfl rfl rfl rfl rfl rfl rfl rfl ?_;refine Zr 1 rfl (aA nd (a_ (a_ ?_)));have mW:=ar bD;subst mW;exact oO ⟨[(1000,some 1000),(1001,some 1001),(991,some 46),(1002,some 1002),(1003,some 1003)],rfl,rfl,⟨⟨_,rfl,rfl,rfl,.inl ⟨rfl,aw rfl⟩⟩,⟨_,rfl,rfl,rfl,.inr ⟨⟨⟨rfl,rfl,rfl⟩,trivial⟩,⟨rfl,trivial⟩⟩⟩,⟨_,rfl,rfl,rfl,aD (enc:=eS) l2 (fun _=>rfl)⟩,⟨_,rfl,rfl,rfl,.inl ⟨rfl,aw rfl⟩⟩,⟨_,rfl,rfl,rfl,.inl ⟨rfl,aw rfl⟩⟩,trivial⟩⟩
      ·replace bD:=aj bD gD;refine mR ?_;refine a_ (a_ ?_);have gY:=ar bD;subst gY;exact oO ⟨[(1000,some 1000),(1001,some 1001),(991,some 1191),(1002,some 1002),(1003,some 1003)],rfl,rfl,⟨⟨_,rfl,rfl,rfl,.inl ⟨rfl,aw rfl⟩⟩,⟨_,rfl,rfl,rfl,.inr ⟨⟨⟨rfl,rfl,rfl⟩,trivial⟩,⟨rfl,trivial⟩⟩⟩,⟨_,rfl,rfl,rfl,aD (enc:=eS) w (fun _=>rfl)⟩,⟨_,rfl,rfl,rfl,.inl ⟨rfl,aw rfl⟩⟩,⟨_,rfl,rfl,rfl,.inl ⟨rfl,aw rfl⟩⟩,trivial⟩⟩
    ·subst hv;replace bc:=bL bc;refine qb (acc:=[]) 8 rfl ?_;refine Zr 5 rfl ?_;refine bg aX p.br ab rfl rfl rfl rfl rfl rfl ?_;refine Zr 2 rfl (aA nd ?_);refine yT rfl ?_;refine ak ?_;refine eC ?_;refine ao (b:=decide (((p.br.length:Nat):Int)≤i)) rfl (fun ir=>?_) (fun ir=>?_)
     ·replace bc:=ai bc ir;refine Ze (aW (aF ?_));obtain⟨t,iW,hq⟩:=aZ bc;subst hq;have hq:t=_:=fC;subst hq;refine aF (aW ?_);have il:=ar iW;subst il;refine a8 ⟨_,⟨_,rfl,rfl⟩,[(1000,some 1000),(1001,some 1001),(991,some 600),(1002,some 1002),(1003,some 1003)],rfl,rfl,⟨⟨_,rfl,rfl,rfl,.inl ⟨rfl,aw rfl⟩⟩,⟨_,rfl,rfl,rfl,.inr ⟨⟨⟨rfl,rfl,rfl⟩,trivial⟩,⟨rfl,trivial⟩⟩⟩,⟨_,rfl,rfl,rfl,aD (enc:=eS) vv (fun _=>rfl)⟩,⟨_,rfl,rfl,rfl,.inl ⟨rfl,aw rfl⟩⟩,⟨_,rfl,rfl,rfl,.inl ⟨rfl,aw rfl⟩⟩,trivial⟩⟩
     ·replace bc:=aj bc ir;refine Zk ?_;refine eC ?_;refine aq 3 rfl ?_;obtain⟨e2,jz,bc⟩:=ah bc;refine bn aX p.br i e2 jz ab rfl rfl rfl rfl rfl rfl rfl rfl rfl ?_;refine af 3 rfl (aq 2 rfl ?_);refine aM vO (xm e2.Kind _ rfl) rfl rfl rfl rfl rfl rfl rfl ?_;refine Zn ?_;refine ao (b:=iN e2.Kind) rfl (fun gE=>?_) (fun gE=>?_)
      ·replace bc:=ai bc gE;refine aq 4 rfl ?_;obtain⟨pv,qF,bc⟩:=dH bc;refine aM BW (DS e.en e2 kerf pv qF) rfl rfl rfl rfl rfl rfl rfl ?_;refine af 10 rfl (aQ 12 rfl ?_);obtain⟨l3,oX,bc⟩:=ah bc;refine dY fT l ([(⟨pv.2.2,U (e.level+1)⟩:cB),(⟨pv.1,U (e.level+1)⟩:cB)]) l3 oX (fun _=>rfl) rfl rfl ab rfl rfl rfl rfl rfl rfl rfl rfl rfl rfl rfl rfl rfl rfl rfl rfl rfl ?_;refine Zr 1 rfl (aA nd (a_ (ak ?_)));refine eC ?_;refine aQ 3 rfl (aA nd ?_);have mT:=ar bc;subst mT;refine ak ⟨rfl,(l3,U (i+1),vv),[(4,some 72),(990,some 600),(1001,some 1001),(1002,some 1002),(1003,some 1003),(1000,some 1000)],⟨rfl,rfl,rfl,rfl,rfl,⟨⟨rfl,rfl,rfl⟩,ag _ rfl,trivial⟩,⟨⟨_,rfl,rfl,rfl,aD (enc:=fT) l3 (fun _=>rfl)⟩,⟨_,rfl,rfl,rfl,aD (enc:=eS) vv (fun _=>rfl)⟩,⟨_,rfl,rfl,rfl,.inr ⟨⟨⟨rfl,rfl,rfl⟩,trivial⟩,⟨rfl,trivial⟩⟩⟩,trivial⟩⟩,fC⟩
      ·replace bc:=aj bc gE;refine b_ (a_ (ak ?_));refine eC ?_;refine aQ 3 rfl (aA nd ?_);have im:=ar bc;subst im;refine ak ⟨rfl,(l,U (i+1),vv),[(4,some 4),(990,some 600),(1001,some 1001),(1002,some 1002),(1003,some 1003),(1000,some 1000)],⟨rfl,rfl,rfl,rfl,rfl,⟨⟨rfl,rfl,rfl⟩,ag _ rfl,trivial⟩,⟨⟨_,rfl,rfl,rfl,aD (enc:=fT) l (fun _=>rfl)⟩,⟨_,rfl,rfl,rfl,aD (enc:=eS) vv (fun _=>rfl)⟩,⟨_,rfl,rfl,rfl,.inr ⟨⟨⟨rfl,rfl,rfl⟩,trivial⟩,⟨rfl,trivial⟩⟩⟩,trivial⟩⟩,fC⟩
    ·subst hv;replace bc:=dI bc;refine af 8 rfl ?_;refine ao rfl (fun aL=>?_) Zx;clear aL;refine Ze (aW (aF ?_));obtain⟨t1,qm,hq⟩:=aZ bc;subst hq;have hq:t1=_:=fC;subst hq;refine aF (aW ?_);have jv:=ar qm;subst jv;refine a8 ⟨_,⟨rfl,_,rfl,rfl⟩,[(1000,some 1000),(1001,some 1001),(991,some 600),(1002,some 1002),(1003,some 1003)],rfl,rfl,⟨⟨_,rfl,rfl,rfl,.inl ⟨rfl,aw rfl⟩⟩,⟨_,rfl,rfl,rfl,.inr ⟨⟨⟨rfl,rfl,rfl⟩,trivial⟩,⟨rfl,trivial⟩⟩⟩,⟨_,rfl,rfl,rfl,aD (enc:=eS) aR (fun _=>rfl)⟩,⟨_,rfl,rfl,rfl,.inl ⟨rfl,aw rfl⟩⟩,⟨_,rfl,rfl,rfl,.inl ⟨rfl,aw rfl⟩⟩,trivial⟩⟩
   ·replace bc:=aj bc c7;refine bP (aY ?_);obtain⟨t2,oT,hq⟩:=aZ bc;subst hq;have hq:t2=_:=fC;subst hq;refine aY (bQ ?_);have oU:=ar oT;subst oU;refine od ⟨_,⟨_,rfl,rfl⟩,[(1000,some 1000),(1001,some 1001),(991,some 990),(1002,some 1002),(1003,some 1003)],rfl,rfl,⟨⟨_,rfl,rfl,rfl,.inl ⟨rfl,aw rfl⟩⟩,⟨_,rfl,rfl,rfl,.inr ⟨⟨⟨rfl,rfl,rfl⟩,trivial⟩,⟨rfl,trivial⟩⟩⟩,⟨_,rfl,rfl,rfl,aD (enc:=eS) w (fun _=>rfl)⟩,⟨_,rfl,rfl,rfl,.inl ⟨rfl,aw rfl⟩⟩,⟨_,rfl,rfl,rfl,.inl ⟨rfl,aw rfl⟩⟩,trivial⟩⟩
  ·subst hv;replace h:=bL h;refine aa 3 rfl ?_;refine ed [5] [1000,1002,1003] [(991,some ⟨121,5,cI.map eS⟩)] [(1001,some 1001),(1000,some 1000),(1002,some 1002),(1003,some 1003)] [(4,an eS cI)] [(1001,some ⟨109,1,[an eS cI]⟩)] rfl rfl rfl rfl rfl ⟨rfl,by decide,trivial⟩ ⟨cV rfl rfl (fun _=>rfl),trivial⟩ ⟨⟨_,rfl,rfl,rfl,.inr ⟨⟨cV rfl rfl (fun _=>rfl),trivial⟩,⟨rfl,trivial⟩⟩⟩,trivial⟩ ?_;refine aK ?_;have qp:=ar h;subst qp;refine vW ?_;refine sn ab rfl rfl ?_;exact aB _ rfl
  ·subst hv;cases h
theorem al2 (l:List gA):Holds Tryz.prog 156 [an eS l] [] (.cE 190 [] [.ref 999 0 0]) [(999,some ⟨109,1,[an eS l]⟩)]:=by
 refine bm Tryz.func156 rfl Tryz.ntmps156 rfl rfl rfl (fun lim=>?_);refine aa 2 rfl (aa 2 rfl (aK (a8 ?_)));exact gu [(999,some 1)] ab rfl rfl rfl rfl ⟨rfl,trivial,⟨rfl,rfl,rfl⟩,trivial⟩ ⟨⟨_,rfl,rfl,rfl,.inl ⟨rfl,aw rfl⟩⟩,trivial⟩
def AM (vr:aJ) (vz:Sp):Bx:=
 (⟨vr.X,vr.Y,vz⟩:Bx)
theorem Ho (vr:aJ) (vz:Sp) (r:Bx) (h:AM vr vz=r):Holds Tryz.prog 117 [cP vr,bC vz] [] (vP r) []:=by
 unfold AM at h;refine bm Tryz.func117 rfl Tryz.ntmps117 rfl rfl rfl (fun lim=>?_);refine aa 3 rfl (aa 7 rfl (aK ?_));have e1:=h;subst e1;refine a8 ?_;refine bp ab rfl rfl ?_;exact(aB _ rfl)
def L8 (l:List aV) (d:List Df) (c:List bh) (s:cS) (ba:Int) (jE:List gQ) (i:Int) (x:gA):Option ((List gQ)⊕(List gQ)):=
 (β (aC c x.jW) (fun e=>(β (uC l d e x.pC s.Step ba) (fun bv=>(bif bv.2.2 then(cU (AM x.pC bv.1) (fun ku=>(β (cK 72 jE ([(⟨i,x.jW,ku,bv.2.1⟩:gQ)])) (fun l1=>some (κ l1))))) else some (κ jE))))))
def AN (l:List aV) (d:List Df) (c:List bh) (s:cS) (ba:Int) (lv:(List gA)×Int) (vv:Int) (w:List gQ):Option ((Int×(List gQ))⊕((List gQ)⊕(List gQ))):=
 (bif(decide (vv<((lv.1.length:Nat):Int))) then(β (aC lv.1 vv) (fun e=>(bif(e.jW !=(-1)) then(β (L8 l d c s ba w vv e) (fun iL=>Sum.elim (fun aR=>some (κ ((U (vv+1)),aR))) (fun cI=>some (ι (ι cI))) iL)) else some (κ ((U (vv+1)),w))))) else some (ι (κ w)))
def DY (l:List aV) (d:List Df) (c:List bh) (p:dR) (s:cS) (ba:Int):Option ((List gQ)×Int):=
 (β (AL l d c p s (⟨0,0,ba⟩:da)) (fun cv=>(bif(cv !=0) then some ([],cv) else(β (DX p s.bj) (fun lv=>(bif(lv.2!=0) then some ([],lv.2) else(β (bb (fun q=>AN l d c s ba lv q.1 q.2) (0,([]:List gQ))) (fun vz=>Sum.elim (fun lx=>some (lx,0)) (fun _=>none) vz))))))))
theorem al3 (l:List aV) (d:List Df) (c:List bh) (p:dR) (s:cS) (ba:Int) (r:(List gQ)×Int) (h:DY l d c p s ba=some r):Holds Tryz.prog 115 [(an cy) l,(an cq) d,(an cL) c,oK p,oJ s,I ba] [] (.bR [(an iG) r.1,I r.2]) []:=by
 unfold DY at h;refine B3 Tryz.func115 rfl Tryz.ntmps115 rfl rfl (fun lim=>?_);refine jX ?_;refine fY 8 rfl ?_;refine jX ?_;refine aq 7 rfl ?_;obtain⟨cv,bx,h⟩:=ah h;refine aM Ui (Ww l d c p s (⟨0,0,ba⟩:da) cv bx) rfl rfl rfl rfl rfl rfl rfl ?_;refine af 1 rfl (aa 2 rfl ?_);refine ao (b:=cv !=0) rfl (fun c2=>?_) (fun c2=>?_)
 ·replace h:=ai h c2;refine aa 3 rfl (Ze ?_);cases h;refine a8 (bp ab rfl rfl ?_);exact⟨cF,aB _ rfl,trivial⟩
 ·replace h:=aj h c2;refine Zk ?_;refine jX ?_;refine aQ 3 rfl ?_;obtain⟨lv,dt,h⟩:=ah h;refine aM af7 (alX p s.bj lv dt) rfl rfl rfl rfl rfl rfl rfl ?_;refine af 5 rfl ?_;refine jX ?_;refine aa 2 rfl ?_;refine ao (b:=lv.2!=0) rfl (fun c5=>?_) (fun c5=>?_)
  ·replace h:=ai h c5;refine aa 3 rfl (Ze ?_);cases h;refine a8 (bp ab rfl rfl ?_);exact⟨cF,aB _ rfl,trivial⟩
  ·replace h:=aj h c5;refine Zk ?_;refine jX ?_;refine fY 1 rfl ?_;refine B5 ?_;refine aQ 1 rfl ?_;refine iE (.cE 190 [] [.ref 700 0 0]) [] [(700,some ⟨109,1,[an eS lv.1]⟩)] [] [(700,some 999)] agV (al2 lv.1) rfl rfl rfl rfl rfl trivial ⟨aB _ rfl,trivial⟩ rfl rfl trivial rfl rfl ⟨⟨_,rfl,rfl,rfl,.inl ⟨rfl,aw rfl⟩⟩,trivial⟩ ⟨rfl,trivial,⟨rfl,rfl,rfl⟩,trivial⟩ rfl (fun h=>absurd rfl h) rfl rfl rfl ?_;refine Zn ?_;obtain⟨vz,aP,h⟩:=ah h;refine Cb (X:=List gQ) (Y:=List gQ) (t0:=[(6,.ref 1000 0 0),(7,.ref 1001 0 0),(8,.ref 1002 0 0),(10,.ref 1003 0 0),(11,.ref 1004 0 0),(17,.ref 1005 0 0)]) (M:=[(1000,some ⟨43,1,[an cy l]⟩),(1001,some ⟨23,1,[an cq d]⟩),(1002,some ⟨26,1,[an cL c]⟩),(1003,some ⟨28,4,[.agg [I s.bj,I s.Trim,I s.dq,I s.Step]]⟩),(1004,some ⟨3,1,[I ba]⟩),(1005,some ⟨58,1,[.arr 1195 0 ((([]:List gQ)).length)]⟩),(1195,some ⟨68,9,([]:List gQ).map iG⟩),(1006,some ⟨109,1,[an eS lv.1]⟩)]) (caps':=[.ref 1006 0 0]) (fun l=>[(0,.sc (.func (.yield l) #[] #[])),(1,.ref 1006 0 0)]) [(1000,some 6),(1001,some 7),(1002,some 8),(1003,some 10),(1004,some 11),(1005,some 17),(1195,none),(1006,some 700)] [(1000,some 6),(1001,some 7),(1002,some 8),(1003,some 10),(1004,some 11),(1005,some 17)] vz (fun q=>[(1000,some ⟨43,1,[an cy l]⟩),(1001,some ⟨23,1,[an cq d]⟩),(1002,some ⟨26,1,[an cL c]⟩),(1003,some ⟨28,4,[.agg [I s.bj,I s.Trim,I s.dq,I s.Step]]⟩),(1004,some ⟨3,1,[I ba]⟩),(1005,some ⟨58,1,[.arr 995 0 q.length]⟩),(995,some ⟨68,9,q.map iG⟩),(1006,some ⟨109,1,[an eS lv.1]⟩)]) (fun q=>[(1000,some ⟨43,1,[an cy l]⟩),(1001,some ⟨23,1,[an cq d]⟩),(1002,some ⟨26,1,[an cL c]⟩),(1003,some ⟨28,4,[.agg [I s.bj,I s.Trim,I s.dq,I s.Step]]⟩),(1004,some ⟨3,1,[I ba]⟩),(1005,some ⟨58,1,[.arr 995 0 q.length]⟩),(995,some ⟨68,9,q.map iG⟩),(1006,some ⟨109,1,[an eS lv.1]⟩)]) rfl Tryz.func190 rfl Tryz.ntmps190 rfl (B6 ahc) rfl rfl rfl rfl ⟨⟨_,rfl,rfl,rfl,.inl ⟨rfl,aw rfl⟩⟩,⟨_,rfl,rfl,rfl,.inl ⟨rfl,aw rfl⟩⟩,⟨_,rfl,rfl,rfl,.inl ⟨rfl,aw rfl⟩⟩,⟨_,rfl,rfl,rfl,.inl ⟨rfl,aw rfl⟩⟩,⟨_,rfl,rfl,rfl,.inl ⟨rfl,aw rfl⟩⟩,⟨_,rfl,rfl,rfl,.inr ⟨⟨⟨rfl,rfl,rfl⟩,trivial⟩,⟨rfl,trivial⟩⟩⟩,rfl,⟨_,rfl,rfl,rfl,.inl ⟨rfl,aw rfl⟩⟩,trivial⟩ ⟨⟨rfl,rfl,rfl⟩,trivial⟩ ⟨⟨rfl,rfl,rfl⟩,⟨rfl,rfl,rfl⟩,⟨rfl,rfl,rfl⟩,⟨rfl,rfl,rfl⟩,⟨rfl,rfl,rfl⟩,⟨rfl,rfl,rfl⟩,trivial⟩ rfl rfl (fun _=>rfl) (fun _=>rfl) (fun _=>rfl) (fun cx7 ly7 kn7 rc7 hI7 qa7 qb7 qc7 qd7 qe7 qf7 qg7=>?_) (fun lx hv lim=>?_) (fun _ hv=>?_)
   ·skip;refine fj ?_;refine eC ?_;refine aQ 1 rfl ?_;refine bg eS lv.1 ab rfl rfl rfl rfl rfl rfl ?_;refine af 1 rfl ?_;refine rq ?_;refine B' (X:=Int×(List gQ)) (Y:=(List gQ)⊕(List gQ)) [0,5,6] [1000,1001,1002,1003,1004,1006] (fun q=>[(7,I q.1)]) (fun q=>[(990,some ⟨68,9,q.2.map iG⟩),(1005,some ⟨58,1,[.arr 990 0 q.2.length]⟩)]) (fun q=>AN l d c s ba lv q.1 q.2) (0,([]:List gQ)) [(990,some 1195),(1005,some 1005),(1000,some 1000),(1001,some 1001),(1002,some 1002),(1003,some 1003),(1004,some 1004),(1006,some 1006)] aP ⟨rfl,rfl,rfl,rfl,rfl,⟨ag _ rfl,trivial⟩,⟨⟨_,rfl,rfl,rfl,aD (enc:=iG) ([]:List gQ) (fun _=>rfl)⟩,⟨_,rfl,rfl,rfl,.inr ⟨⟨⟨rfl,rfl,rfl⟩,trivial⟩,⟨rfl,trivial⟩⟩⟩,trivial⟩⟩ (fun x vR gS cr kv=>?_);obtain⟨vv,w⟩:=x;change AN l d c s ba lv vv w=_ at cr;unfold AN at cr;refine fj ?_;refine eC ?_;refine fY 1 rfl ?_;refine fj ?_;refine eC ?_;refine ao (b:=decide (vv<((lv.1.length:Nat):Int))) rfl (fun db=>?_) (fun db=>?_)
    ·replace cr:=ai cr db;refine Zk ?_;refine fj ?_;refine rq ?_;refine fj ?_;refine eC ?_;refine aQ 1 rfl ?_;obtain⟨e,eG,cr⟩:=ah cr;refine bn eS lv.1 vv e eG ab rfl rfl rfl rfl rfl rfl rfl rfl rfl ?_;refine af 4 rfl ?_;refine fj ?_;refine B8 ?_;refine qb (acc:=[]) 7 rfl ?_;refine Zr 4 rfl ?_;refine bd rfl rfl rfl (fun g12=>?_) (fun g12=>?_)
     ·rw [g12];replace cr:=ai cr g12;refine Zr 3 rfl (aA nd ?_);obtain⟨iL,ns,cr⟩:=ah cr;refine Ca (M:=[(1000,some ⟨43,1,[an cy l]⟩),(1001,some ⟨23,1,[an cq d]⟩),(1002,some ⟨26,1,[an cL c]⟩),(1003,some ⟨28,4,[.agg [I s.bj,I s.Trim,I s.dq,I s.Step]]⟩),(1004,some ⟨3,1,[I ba]⟩),(1005,some ⟨58,1,[.arr 1195 0 w.length]⟩),(1195,some ⟨68,9,w.map iG⟩),(1006,some ⟨109,1,[an eS lv.1]⟩)]) iL [(1000,some 1000),(1001,some 1001),(1002,some 1002),(1003,some 1003),(1004,some 1004),(1005,some 1005),(1195,some 990),(1006,some 1006)] [(1000,some 1000),(1001,some 1001),(1002,some 1002),(1003,some 1003),(1004,some 1004),(1005,some 1005),(600,some 995),(1006,some 1006)] (fun q=>[(1000,some ⟨43,1,[an cy l]⟩),(1001,some ⟨23,1,[an cq d]⟩),(1002,some ⟨26,1,[an cL c]⟩),(1003,some ⟨28,4,[.agg [I s.bj,I s.Trim,I s.dq,I s.Step]]⟩),(1004,some ⟨3,1,[I ba]⟩),(1005,some ⟨58,1,[.arr 600 0 q.length]⟩),(600,some ⟨68,9,q.map iG⟩),(1006,some ⟨109,1,[an eS lv.1]⟩)]) (fun q=>[(1000,some ⟨43,1,[an cy l]⟩),(1001,some ⟨23,1,[an cq d]⟩),(1002,some ⟨26,1,[an cL c]⟩),(1003,some ⟨28,4,[.agg [I s.bj,I s.Trim,I s.dq,I s.Step]]⟩),(1004,some ⟨3,1,[I ba]⟩),(1005,some ⟨58,1,[.arr 600 0 q.length]⟩),(600,some ⟨68,9,q.map iG⟩),(1006,some ⟨109,1,[an eS lv.1]⟩)]) (Cc iL (fun q=>[(1000,some ⟨43,1,[an cy l]⟩),(1001,some ⟨23,1,[an cq d]⟩),(1002,some ⟨26,1,[an cL c]⟩),(1003,some ⟨28,4,[.agg [I s.bj,I s.Trim,I s.dq,I s.Step]]⟩),(1004,some ⟨3,1,[I ba]⟩),(1005,some ⟨58,1,[.arr 995 0 q.length]⟩),(995,some ⟨68,9,q.map iG⟩),(1006,some ⟨109,1,[an eS lv.1]⟩)]) (fun q=>[(1000,some ⟨43,1,[an cy l]⟩),(1001,some ⟨23,1,[an cq d]⟩),(1002,some ⟨26,1,[an cL c]⟩),(1003,some ⟨28,4,[.agg [I s.bj,I s.Trim,I s.dq,I s.Step]]⟩),(1004,some ⟨3,1,[I ba]⟩),(1005,some ⟨58,1,[.arr 995 0 q.length]⟩),(995,some ⟨68,9,q.map iG⟩),(1006,some ⟨109,1,[an eS lv.1]⟩)]) qa7 qb7 qc7 qd7 qe7 rfl qf7 rfl rfl rfl rfl (qg7 _ _ rfl) (fun lim=>?_)) rfl rfl rfl rfl ⟨aB _ rfl,aB _ rfl,trivial⟩ rfl rfl ⟨⟨_,rfl,rfl,rfl,.inl ⟨rfl,aw rfl⟩⟩,⟨_,rfl,rfl,rfl,.inl ⟨rfl,aw rfl⟩⟩,⟨_,rfl,rfl,rfl,.inl ⟨rfl,aw rfl⟩⟩,⟨_,rfl,rfl,rfl,.inl ⟨rfl,aw rfl⟩⟩,⟨_,rfl,rfl,rfl,.inl ⟨rfl,aw rfl⟩⟩,⟨_,rfl,rfl,rfl,.inr ⟨⟨⟨rfl,rfl,rfl⟩,trivial⟩,⟨rfl,trivial⟩⟩⟩,⟨_,rfl,rfl,rfl,aD (enc:=iG) w (fun _=>rfl)⟩,⟨_,rfl,rfl,rfl,.inl ⟨rfl,aw rfl⟩⟩,trivial⟩ rfl (fun _=>rfl) (fun _=>rfl) (fun _=>⟨⟨_,rfl,rfl,rfl,.inl ⟨rfl,aw rfl⟩⟩,⟨_,rfl,rfl,rfl,.inl ⟨rfl,aw rfl⟩⟩,⟨_,rfl,rfl,rfl,.inl ⟨rfl,aw rfl⟩⟩,⟨_,rfl,rfl,rfl,.inl ⟨rfl,aw rfl⟩⟩,⟨_,rfl,rfl,rfl,.inl ⟨rfl,aw rfl⟩⟩,⟨_,rfl,rfl,rfl,.inr ⟨⟨⟨rfl,rfl,rfl⟩,trivial⟩,⟨rfl,trivial⟩⟩⟩,⟨_,rfl,rfl,rfl,aD (enc:=iG) _ (fun _=>rfl)⟩,⟨_,rfl,rfl,rfl,.inl ⟨rfl,aw rfl⟩⟩,trivial⟩) (fun _=>⟨⟨_,rfl,rfl,rfl,.inl ⟨rfl,aw rfl⟩⟩,⟨_,rfl,rfl,rfl,.inl ⟨rfl,aw rfl⟩⟩,⟨_,rfl,rfl,rfl,.inl ⟨rfl,aw rfl⟩⟩,⟨_,rfl,rfl,rfl,.inl ⟨rfl,aw rfl⟩⟩,⟨_,rfl,rfl,rfl,.inl ⟨rfl,aw rfl⟩⟩,⟨_,rfl,rfl,rfl,.inr ⟨⟨⟨rfl,rfl,rfl⟩,trivial⟩,⟨rfl,trivial⟩⟩⟩,⟨_,rfl,rfl,rfl,aD (enc:=iG) _ (fun _=>rfl)⟩,⟨_,rfl,rfl,rfl,.inl ⟨rfl,aw rfl⟩⟩,trivial⟩) (fun _=>rfl) (fun _=>rfl) (fun _=>rfl) (fun _=>rfl) hI7 rfl (fun aR hv=>?_) (fun cI hv=>?_)
      ·unfold L8 at ns;refine eo ?_;refine dK bX rfl ?_;refine af 1 rfl ?_;refine dK bX rfl ?_;refine af 2 rfl ?_;refine yZ ?_;refine eo ?_;refine dK bX rfl ?_;refine Zr 5 rfl ?_;obtain⟨e1,eW,ns⟩:=ah ns;refine bn cL c e.jW e1 eW ab rfl rfl rfl rfl rfl rfl rfl rfl rfl ?_;refine Zr 6 rfl ?_;obtain⟨bv,gX,ns⟩:=ah ns;refine aM Ub (V9 l d e1 e.pC s.Step ba bv gX) rfl rfl rfl rfl rfl rfl rfl ?_;refine Zr 8 rfl ?_;refine aA (fun _=>by kernel_rfl) ?_;refine ak ?_;refine eo ?_;refine dK bX rfl ?_;refine af 1 rfl ?_;refine mg (b:=bv.2.2) rfl (fun eF=>?_) (fun eF=>?_)
       ·replace ns:=ai ns eF;refine dK bX rfl ?_;refine Zr 7 rfl ?_;obtain⟨ku,gT,ns⟩:=dH ns;refine aM FW (Ho e.pC bv.1 ku gT) rfl rfl rfl rfl rfl rfl rfl ?_;refine Zr 3 rfl ?_;obtain⟨l1,h9,ns⟩:=ah ns;refine dY iG w ([(⟨vv,e.jW,ku,bv.2.1⟩:gQ)]) l1 h9 (fun _=>rfl) rfl rfl ab rfl rfl rfl rfl rfl rfl rfl rfl rfl rfl rfl rfl rfl rfl rfl rfl rfl ?_;refine Zr 1 rfl ?_;refine aA (fun _=>by kernel_rfl) ?_;refine a_ ?_;have kL:=ar ns;subst kL;exact oO ⟨[(1000,some 1000),(1001,some 1001),(1002,some 1002),(1003,some 1003),(1004,some 1004),(1005,some 1005),(995,some 77),(1006,some 1006)],rfl,rfl,⟨⟨_,rfl,rfl,rfl,.inl ⟨rfl,aw rfl⟩⟩,⟨_,rfl,rfl,rfl,.inl ⟨rfl,aw rfl⟩⟩,⟨_,rfl,rfl,rfl,.inl ⟨rfl,aw rfl⟩⟩,⟨_,rfl,rfl,rfl,.inl ⟨rfl,aw rfl⟩⟩,⟨_,rfl,rfl,rfl,.inl ⟨rfl,aw rfl⟩⟩,⟨_,rfl,rfl,rfl,.inr ⟨⟨⟨rfl,rfl,rfl⟩,trivial⟩,⟨rfl,trivial⟩⟩⟩,⟨_,rfl,rfl,rfl,aD (enc:=iG) l1 (fun _=>rfl)⟩,⟨_,rfl,rfl,rfl,.inl ⟨rfl,aw rfl⟩⟩,trivial⟩⟩
       ·replace ns:=aj ns eF;refine mR ?_;refine a_ ?_;have jy:=ar ns;subst jy;exact oO ⟨[(1000,some 1000),(1001,some 1001),(1002,some 1002),(1003,some 1003),(1004,some 1004),(1005,some 1005),(995,some 1195),(1006,some 1006)],rfl,rfl,⟨⟨_,rfl,rfl,rfl,.inl ⟨rfl,aw rfl⟩⟩,⟨_,rfl,rfl,rfl,.inl ⟨rfl,aw rfl⟩⟩,⟨_,rfl,rfl,rfl,.inl ⟨rfl,aw rfl⟩⟩,⟨_,rfl,rfl,rfl,.inl ⟨rfl,aw rfl⟩⟩,⟨_,rfl,rfl,rfl,.inl ⟨rfl,aw rfl⟩⟩,⟨_,rfl,rfl,rfl,.inr ⟨⟨⟨rfl,rfl,rfl⟩,trivial⟩,⟨rfl,trivial⟩⟩⟩,⟨_,rfl,rfl,rfl,aD (enc:=iG) w (fun _=>rfl)⟩,⟨_,rfl,rfl,rfl,.inl ⟨rfl,aw rfl⟩⟩,trivial⟩⟩
      ·subst hv;replace cr:=bL cr;refine qb (acc:=[]) 2 rfl ?_;refine Zr 2 rfl (aA nd ?_);refine yT rfl ?_;refine ak ?_;refine eC ?_;refine ao rfl Zx (fun aL=>?_);clear aL;refine b_ (a_ (ak ?_));refine eC ?_;refine aQ 2 rfl (aA nd ?_);have il:=ar cr;subst il;refine ak ⟨rfl,((U (vv+1)),aR),[(990,some 600),(1005,some 1005),(1000,some 1000),(1001,some 1001),(1002,some 1002),(1003,some 1003),(1004,some 1004),(1006,some 1006)],⟨rfl,rfl,rfl,rfl,rfl,⟨ag _ rfl,trivial⟩,⟨⟨_,rfl,rfl,rfl,aD (enc:=iG) aR (fun _=>rfl)⟩,⟨_,rfl,rfl,rfl,.inr ⟨⟨⟨rfl,rfl,rfl⟩,trivial⟩,⟨rfl,trivial⟩⟩⟩,trivial⟩⟩,kv⟩
      ·subst hv;replace cr:=dI cr;refine af 2 rfl ?_;refine ao rfl (fun aL=>?_) Zx;clear aL;refine aK (aW (aF ?_));obtain⟨t,m_,hq⟩:=aZ cr;subst hq;have hq:t=_:=kv;subst hq;refine aF (aW ?_);have lO:=ar m_;subst lO;refine a8 ⟨_,⟨rfl,_,rfl,rfl⟩,[(1000,some 1000),(1001,some 1001),(1002,some 1002),(1003,some 1003),(1004,some 1004),(1005,some 1005),(995,some 600),(1006,some 1006)],rfl,rfl,⟨⟨_,rfl,rfl,rfl,.inl ⟨rfl,aw rfl⟩⟩,⟨_,rfl,rfl,rfl,.inl ⟨rfl,aw rfl⟩⟩,⟨_,rfl,rfl,rfl,.inl ⟨rfl,aw rfl⟩⟩,⟨_,rfl,rfl,rfl,.inl ⟨rfl,aw rfl⟩⟩,⟨_,rfl,rfl,rfl,.inl ⟨rfl,aw rfl⟩⟩,⟨_,rfl,rfl,rfl,.inr ⟨⟨⟨rfl,rfl,rfl⟩,trivial⟩,⟨rfl,trivial⟩⟩⟩,⟨_,rfl,rfl,rfl,aD (enc:=iG) cI (fun _=>rfl)⟩,⟨_,rfl,rfl,rfl,.inl ⟨rfl,aw rfl⟩⟩,trivial⟩⟩
     ·rw [g12];replace cr:=aj cr g12;refine Zr 3 rfl (aA nd ?_);refine qb (acc:=[]) 3 rfl ?_;refine Zr 3 rfl (aA nd ?_);refine yT rfl ?_;refine ak ?_;refine eC ?_;refine ao rfl Zx (fun aL=>?_);clear aL;refine b_ (a_ (ak ?_));refine eC ?_;refine aQ 2 rfl (aA nd ?_);have fU:=ar cr;subst fU;refine ak ⟨rfl,((U (vv+1)),w),[(990,some 990),(1005,some 1005),(1000,some 1000),(1001,some 1001),(1002,some 1002),(1003,some 1003),(1004,some 1004),(1006,some 1006)],⟨rfl,rfl,rfl,rfl,rfl,⟨ag _ rfl,trivial⟩,⟨⟨_,rfl,rfl,rfl,aD (enc:=iG) w (fun _=>rfl)⟩,⟨_,rfl,rfl,rfl,.inr ⟨⟨⟨rfl,rfl,rfl⟩,trivial⟩,⟨rfl,trivial⟩⟩⟩,trivial⟩⟩,kv⟩
    ·replace cr:=aj cr db;refine bP (aY ?_);obtain⟨t1,sI,hq⟩:=aZ cr;subst hq;have hq:t1=_:=kv;subst hq;refine aY (bQ ?_);have mT:=ar sI;subst mT;refine od ⟨_,⟨_,rfl,rfl⟩,[(1000,some 1000),(1001,some 1001),(1002,some 1002),(1003,some 1003),(1004,some 1004),(1005,some 1005),(995,some 990),(1006,some 1006)],rfl,rfl,⟨⟨_,rfl,rfl,rfl,.inl ⟨rfl,aw rfl⟩⟩,⟨_,rfl,rfl,rfl,.inl ⟨rfl,aw rfl⟩⟩,⟨_,rfl,rfl,rfl,.inl ⟨rfl,aw rfl⟩⟩,⟨_,rfl,rfl,rfl,.inl ⟨rfl,aw rfl⟩⟩,⟨_,rfl,rfl,rfl,.inl ⟨rfl,aw rfl⟩⟩,⟨_,rfl,rfl,rfl,.inr ⟨⟨⟨rfl,rfl,rfl⟩,trivial⟩,⟨rfl,trivial⟩⟩⟩,⟨_,rfl,rfl,rfl,aD (enc:=iG) w (fun _=>rfl)⟩,⟨_,rfl,rfl,rfl,.inl ⟨rfl,aw rfl⟩⟩,trivial⟩⟩
   ·subst hv;replace h:=bL h;refine aa 3 rfl ?_;refine ed [13] [1000,1001,1002,1003,1004,1006] [(995,some ⟨68,9,lx.map iG⟩)] [(1005,some 1005),(1000,some 1000),(1001,some 1001),(1002,some 1002),(1003,some 1003),(1004,some 1004),(1006,some 1006)] [(12,an iG lx)] [(1005,some ⟨58,1,[an iG lx]⟩)] rfl rfl rfl rfl rfl ⟨rfl,by decide,trivial⟩ ⟨cV rfl rfl (fun _=>rfl),trivial⟩ ⟨⟨_,rfl,rfl,rfl,.inr ⟨⟨cV rfl rfl (fun _=>rfl),trivial⟩,⟨rfl,trivial⟩⟩⟩,trivial⟩ ?_;refine aK ?_;have im:=ar h;subst im;refine vW ?_;refine sn ab rfl rfl ?_;exact aB _ rfl
   ·subst hv;cases h
def Hp (p:dR) (kerf:Int) (l:List aJ) (i:Int) (x:cB):Option ((List aJ)⊕(List aJ)):=
 (β (aC p.br i) (fun e=>(bif(iN e.Kind) then(cU (cJ x.en e kerf) (fun pv=>(β (cK 32 l ([pv.2.1])) (fun l1=>some (κ l1))))) else some (κ l))))
def DZ (p:dR) (kerf:Int) (dp:List cB) (i:Int) (w:List aJ):Option (((List cB)×Int×(List aJ))⊕((List aJ)⊕(List aJ))):=
 (bif(decide (0<((dp.length:Nat):Int))) then(β (aC dp (U (((dp.length:Nat):Int) -1))) (fun e=>(β (kJ dp (U (((dp.length:Nat):Int) -1))) (fun l=>(β (Hp p kerf w i e) (fun iL=>Sum.elim (fun vv=>(bif(decide (((p.br.length:Nat):Int)≤i)) then some (ι (κ vv)) else(β (aC p.br i) (fun e2=>(bif(iN e2.Kind) then(cU (cJ e.en e2 kerf) (fun fN=>(β (cK 40 l ([(⟨fN.2.2,U (e.level+1)⟩:cB),(⟨fN.1,U (e.level+1)⟩:cB)])) (fun l2=>some (κ (l2,U (i+1),vv)))))) else some (κ (l,U (i+1),vv))))))) (fun aR=>some (ι (ι aR))) iL)))))) else some (ι (κ w)))
def D0 (p:dR) (kerf:Int):Option ((List aJ)×Int):=
 (β (xw p kerf) (fun cv=>(bif(cv !=0) then some ([],cv) else(β (bb (fun q=>DZ p kerf q.1 q.2.1 q.2.2) ([(⟨p.Frame,1⟩:cB)],0,([]:List aJ))) (fun vz=>Sum.elim (fun cI=>some (cI,0)) (fun _=>none) vz)))))
theorem ama (p:dR) (kerf:Int) (r:(List aJ)×Int) (h:D0 p kerf=some r):Holds Tryz.prog 116 [oK p,I kerf] [] (.bR [(an cP) r.1,I r.2]) []:=by
 unfold D0 at h;refine B3 Tryz.func116 rfl Tryz.ntmps116 rfl rfl (fun lim=>?_);refine jX ?_;refine fY 4 rfl ?_;refine jX ?_;refine aq 2 rfl ?_;obtain⟨cv,bx,h⟩:=ah h;refine oG (L:=[]) JM (Wv p kerf cv bx) rfl rfl rfl trivial ⟨aB _ rfl,aB _ rfl,aB _ rfl,trivial⟩ rfl rfl (fun h=>absurd rfl h) rfl ?_;refine af 1 rfl (aa 2 rfl ?_);refine ao (b:=cv !=0) rfl (fun c2=>?_) (fun c2=>?_)
 ·replace h:=ai h c2;refine aa 3 rfl (Ze ?_);cases h;refine a8 (bp ab rfl rfl ?_);exact⟨cF,aB _ rfl,trivial⟩
 ·replace h:=aj h c2;refine Zk ?_;refine jX ?_;refine fY 1 rfl ?_;refine B5 ?_;refine aQ 2 rfl ?_;refine iE (.cE 139 [] [.ref 700 0 0,.ref 701 0 0]) [] [(700,some ⟨39,5,[.agg [I p.Frame.X.a,I p.Frame.X.b,I p.Frame.Y.a,I p.Frame.Y.b,an aX p.br]]⟩),(701,some ⟨3,1,[I kerf]⟩)] [] [(700,some 999),(701,some 998)] FV (Hk p kerf) rfl rfl rfl rfl rfl trivial ⟨aB _ rfl,aB _ rfl,trivial⟩ rfl rfl trivial rfl rfl ⟨⟨_,rfl,rfl,rfl,.inl ⟨rfl,aw rfl⟩⟩,⟨_,rfl,rfl,rfl,.inl ⟨rfl,aw rfl⟩⟩,trivial⟩ ⟨rfl,trivial,⟨rfl,rfl,rfl⟩,⟨rfl,rfl,rfl⟩,trivial⟩ rfl (fun h=>absurd rfl h) rfl rfl rfl ?_;refine Zn ?_;obtain⟨vz,bV,h⟩:=ah h;refine Cb (X:=List aJ) (Y:=List aJ) (t0:=[(2,.ref 1000 0 0),(3,.ref 1001 0 0),(7,.ref 1002 0 0)]) (M:=[(1000,some ⟨39,5,[.agg [I p.Frame.X.a,I p.Frame.X.b,I p.Frame.Y.a,I p.Frame.Y.b,an aX p.br]]⟩),(1001,some ⟨3,1,[I kerf]⟩),(1002,some ⟨115,1,[.arr 1192 0 ((([]:List aJ)).length)]⟩),(1192,some ⟨36,4,([]:List aJ).map cP⟩),(1003,some ⟨39,5,[.agg [I p.Frame.X.a,I p.Frame.X.b,I p.Frame.Y.a,I p.Frame.Y.b,an aX p.br]]⟩),(1004,some ⟨3,1,[I kerf]⟩)]) (caps':=[.ref 1003 0 0,.ref 1004 0 0]) (fun l=>[(0,.sc (.func (.yield l) #[] #[])),(1,.ref 1003 0 0),(2,.ref 1004 0 0)]) [(1000,some 2),(1001,some 3),(1002,some 7),(1192,none),(1003,some 700),(1004,some 701)] [(1000,some 2),(1001,some 3),(1002,some 7)] vz (fun q=>[(1000,some ⟨39,5,[.agg [I p.Frame.X.a,I p.Frame.X.b,I p.Frame.Y.a,I p.Frame.Y.b,an aX p.br]]⟩),(1001,some ⟨3,1,[I kerf]⟩),(1002,some ⟨115,1,[.arr 992 0 q.length]⟩),(992,some ⟨36,4,q.map cP⟩),(1003,some ⟨39,5,[.agg [I p.Frame.X.a,I p.Frame.X.b,I p.Frame.Y.a,I p.Frame.Y.b,an aX p.br]]⟩),(1004,some ⟨3,1,[I kerf]⟩)]) (fun q=>[(1000,some ⟨39,5,[.agg [I p.Frame.X.a,I p.Frame.X.b,I p.Frame.Y.a,I p.Frame.Y.b,an aX p.br]]⟩),(1001,some ⟨3,1,[I kerf]⟩),(1002,some ⟨115,1,[.arr 992 0 q.length]⟩),(992,some ⟨36,4,q.map cP⟩),(1003,some ⟨39,5,[.agg [I p.Frame.X.a,I p.Frame.X.b,I p.Frame.Y.a,I p.Frame.Y.b,an aX p.br]]⟩),(1004,some ⟨3,1,[I kerf]⟩)]) rfl Tryz.func139 rfl Tryz.ntmps139 rfl (B6 F0) rfl rfl rfl rfl ⟨⟨_,rfl,rfl,rfl,.inl ⟨rfl,aw rfl⟩⟩,⟨_,rfl,rfl,rfl,.inl ⟨rfl,aw rfl⟩⟩,⟨_,rfl,rfl,rfl,.inr ⟨⟨⟨rfl,rfl,rfl⟩,trivial⟩,⟨rfl,trivial⟩⟩⟩,rfl,⟨_,rfl,rfl,rfl,.inl ⟨rfl,aw rfl⟩⟩,⟨_,rfl,rfl,rfl,.inl ⟨rfl,aw rfl⟩⟩,trivial⟩ ⟨⟨rfl,rfl,rfl⟩,⟨rfl,rfl,rfl⟩,trivial⟩ ⟨⟨rfl,rfl,rfl⟩,⟨rfl,rfl,rfl⟩,⟨rfl,rfl,rfl⟩,trivial⟩ rfl rfl (fun _=>rfl) (fun _=>rfl) (fun _=>rfl) (fun cx4 ly4 kn4 rc4 L0 L1 L2 L3 L4 L5 L6 L7=>?_) (fun cI hv lim=>?_) (fun _ hv=>?_)
  ·skip;refine fj ?_;refine eC ?_;refine fY 5 rfl ?_;refine fj ?_;refine eC ?_;refine fY 1 rfl ?_;refine rq ?_;refine B' (X:=(List cB)×Int×(List aJ)) (Y:=(List aJ)⊕(List aJ)) [0,1,2] [1003,1004,1000,1001] (fun q=>[(4,.arr 4 0 q.1.length),(5,I q.2.1)]) (fun q=>[(4,some ⟨180,5,q.1.map fT⟩),(990,some ⟨36,4,q.2.2.map cP⟩),(1002,some ⟨115,1,[.arr 990 0 q.2.2.length]⟩)]) (fun q=>DZ p kerf q.1 q.2.1 q.2.2) ([(⟨p.Frame,1⟩:cB)],0,([]:List aJ)) [(4,some 14),(990,some 1192),(1002,some 1002),(1003,some 1003),(1004,some 1004),(1000,some 1000),(1001,some 1001)] bV ⟨rfl,rfl,rfl,rfl,rfl,⟨⟨rfl,rfl,rfl⟩,ag _ rfl,trivial⟩,⟨⟨_,rfl,rfl,rfl,aD (enc:=fT) ([(⟨p.Frame,1⟩:cB)]) (fun _=>rfl)⟩,⟨_,rfl,rfl,rfl,aD (enc:=cP) ([]:List aJ) (fun _=>rfl)⟩,⟨_,rfl,rfl,rfl,.inr ⟨⟨⟨rfl,rfl,rfl⟩,trivial⟩,⟨rfl,trivial⟩⟩⟩,trivial⟩⟩ (fun x vR gS bc fC=>?_);obtain⟨dp,i,w⟩:=x;change DZ p kerf dp i w=_ at bc;unfold DZ at bc;refine fj ?_;refine eC ?_;refine aa 3 rfl ?_;refine ao (b:=decide (0<((dp.length:Nat):Int))) rfl (fun c7=>?_) (fun c7=>?_)
   ·replace bc:=ai bc c7;refine Zk ?_;refine fj ?_;refine rq ?_;refine fj ?_;refine eC ?_;refine aQ 4 rfl ?_;obtain⟨e,eX,bc⟩:=ah bc;refine ew fT dp (U (((dp.length:Nat):Int) -1)) e eX rfl ab rfl rfl rfl rfl rfl rfl rfl rfl rfl rfl ?_;refine gO fT dp (U (((dp.length:Nat):Int) -1)) e _ eX ab rfl rfl rfl rfl rfl rfl rfl ?_;refine af 2 rfl ?_;refine fj ?_;refine eC ?_;refine aQ 4 rfl ?_;obtain⟨l,eN,bc⟩:=ah bc;refine rz fT dp l (U (((dp.length:Nat):Int) -1)) eN rfl ab rfl rfl rfl rfl rfl rfl rfl rfl rfl rfl rfl ?_;refine af 1 rfl ?_;refine fj ?_;refine fj ?_;refine B8 ?_;refine qb (acc:=[]) 3 rfl ?_;refine Zr 3 rfl (aA nd ?_);obtain⟨iL,bD,bc⟩:=ah bc;refine Ca (M:=[(1000,some ⟨39,5,[.agg [I p.Frame.X.a,I p.Frame.X.b,I p.Frame.Y.a,I p.Frame.Y.b,an aX p.br]]⟩),(1001,some ⟨3,1,[I kerf]⟩),(1002,some ⟨115,1,[.arr 1192 0 w.length]⟩),(1192,some ⟨36,4,w.map cP⟩),(1003,some ⟨39,5,[.agg [I p.Frame.X.a,I p.Frame.X.b,I p.Frame.Y.a,I p.Frame.Y.b,an aX p.br]]⟩),(1004,some ⟨3,1,[I kerf]⟩)]) iL [(1000,some 1000),(1001,some 1001),(1002,some 1002),(1192,some 990),(1003,some 1003),(1004,some 1004)] [(1000,some 1000),(1001,some 1001),(1002,some 1002),(600,some 992),(1003,some 1003),(1004,some 1004)] (fun q=>[(1000,some ⟨39,5,[.agg [I p.Frame.X.a,I p.Frame.X.b,I p.Frame.Y.a,I p.Frame.Y.b,an aX p.br]]⟩),(1001,some ⟨3,1,[I kerf]⟩),(1002,some ⟨115,1,[.arr 600 0 q.length]⟩),(600,some ⟨36,4,q.map cP⟩),(1003,some ⟨39,5,[.agg [I p.Frame.X.a,I p.Frame.X.b,I p.Frame.Y.a,I p.Frame.Y.b,an aX p.br]]⟩),(1004,some ⟨3,1,[I kerf]⟩)]) (fun q=>[(1000,some ⟨39,5,[.agg [I p.Frame.X.a,I p.Frame.X.b,I p.Frame.Y.a,I p.Frame.Y.b,an aX p.br]]⟩),(1001,some ⟨3,1,[I kerf]⟩),(1002,some ⟨115,1,[.arr 600 0 q.length]⟩),(600,some ⟨36,4,q.map cP⟩),(1003,some ⟨39,5,[.agg [I p.Frame.X.a,I p.Frame.X.b,I p.Frame.Y.a,I p.Frame.Y.b,an aX p.br]]⟩),(1004,some ⟨3,1,[I kerf]⟩)]) (Cc iL (fun q=>[(1000,some ⟨39,5,[.agg [I p.Frame.X.a,I p.Frame.X.b,I p.Frame.Y.a,I p.Frame.Y.b,an aX p.br]]⟩),(1001,some ⟨3,1,[I kerf]⟩),(1002,some ⟨115,1,[.arr 992 0 q.length]⟩),(992,some ⟨36,4,q.map cP⟩),(1003,some ⟨39,5,[.agg [I p.Frame.X.a,I p.Frame.X.b,I p.Frame.Y.a,I p.Frame.Y.b,an aX p.br]]⟩),(1004,some ⟨3,1,[I kerf]⟩)]) (fun q=>[(1000,some ⟨39,5,[.agg [I p.Frame.X.a,I p.Frame.X.b,I p.Frame.Y.a,I p.Frame.Y.b,an aX p.br]]⟩),(1001,some ⟨3,1,[I kerf]⟩),(1002,some ⟨115,1,[.arr 992 0 q.length]⟩),(992,some ⟨36,4,q.map cP⟩),(1003,some ⟨39,5,[.agg [I p.Frame.X.a,I p.Frame.X.b,I p.Frame.Y.a,I p.Frame.Y.b,an aX p.br]]⟩),(1004,some ⟨3,1,[I kerf]⟩)]) L1 L2 L3 L4 L5 rfl L6 rfl rfl rfl rfl (L7 _ _ rfl) (fun lim=>?_)) rfl rfl rfl rfl ⟨aB _ rfl,aB _ rfl,trivial⟩ rfl rfl ⟨⟨_,rfl,rfl,rfl,.inl ⟨rfl,aw rfl⟩⟩,⟨_,rfl,rfl,rfl,.inl ⟨rfl,aw rfl⟩⟩,⟨_,rfl,rfl,rfl,.inr ⟨⟨⟨rfl,rfl,rfl⟩,trivial⟩,⟨rfl,trivial⟩⟩⟩,⟨_,rfl,rfl,rfl,aD (enc:=cP) w (fun _=>rfl)⟩,⟨_,rfl,rfl,rfl,.inl ⟨rfl,aw rfl⟩⟩,⟨_,rfl,rfl,rfl,.inl ⟨rfl,aw rfl⟩⟩,trivial⟩ rfl (fun _=>rfl) (fun _=>rfl) (fun _=>⟨⟨_,rfl,rfl,rfl,.inl ⟨rfl,aw rfl⟩⟩,⟨_,rfl,rfl,rfl,.inl ⟨rfl,aw rfl⟩⟩,⟨_,rfl,rfl,rfl,.inr ⟨⟨⟨rfl,rfl,rfl⟩,trivial⟩,⟨rfl,trivial⟩⟩⟩,⟨_,rfl,rfl,rfl,aD (enc:=cP) _ (fun _=>rfl)⟩,⟨_,rfl,rfl,rfl,.inl ⟨rfl,aw rfl⟩⟩,⟨_,rfl,rfl,rfl,.inl ⟨rfl,aw rfl⟩⟩,trivial⟩) (fun _=>⟨⟨_,rfl,rfl,rfl,.inl ⟨rfl,aw rfl⟩⟩,⟨_,rfl,rfl,rfl,.inl ⟨rfl,aw rfl⟩⟩,⟨_,rfl,rfl,rfl,.inr ⟨⟨⟨rfl,rfl,rfl⟩,trivial⟩,⟨rfl,trivial⟩⟩⟩,⟨_,rfl,rfl,rfl,aD (enc:=cP) _ (fun _=>rfl)⟩,⟨_,rfl,rfl,rfl,.inl ⟨rfl,aw rfl⟩⟩,⟨_,rfl,rfl,rfl,.inl ⟨rfl,aw rfl⟩⟩,trivial⟩) (fun _=>rfl) (fun _=>rfl) (fun _=>rfl) (fun _=>rfl) L0 rfl (fun vv hv=>?_) (fun aR hv=>?_)
    ·unfold Hp at bD;refine eo ?_;refine dK bX rfl ?_;refine af 1 rfl ?_;refine dK bX rfl ?_;refine af 2 rfl ?_;refine yZ ?_;refine eo ?_;refine dK bX rfl ?_;refine Zr 3 rfl ?_;obtain⟨e1,eG,bD⟩:=ah bD;refine bn aX p.br i e1 eG ab rfl rfl rfl rfl rfl rfl rfl rfl rfl ?_;refine af 3 rfl ?_;refine eo ?_;refine dK bX rfl ?_;refine Zr 2 rfl ?_;refine aM vO (xm e1.Kind _ rfl) rfl rfl rfl rfl rfl rfl rfl ?_;refine Zn ?_;refine mg (b:=iN e1.Kind) rfl (fun dn=>?_) (fun dn=>?_)
     ·replace bD:=ai bD dn;refine eo ?_;refine dK bX rfl ?_;refine Zr 4 rfl ?_;obtain⟨pv,fV,bD⟩:=dH bD;refine aM BW (DS e.en e1 kerf pv fV) rfl rfl rfl rfl rfl rfl rfl ?_;refine af 10 rfl ?_;refine dK bX rfl ?_;refine Zr 3 rfl ?_;obtain⟨l1,eW,bD⟩:=ah bD;refine dY cP w ([pv.2.1]) l1 eW (fun _=>rfl) rfl rfl ab rfl rfl rfl rfl rfl rfl rfl rfl rfl rfl rfl rfl rfl rfl rfl rfl rfl ?_;refine Zr 1 rfl (aA nd (a_ ?_));have gW:=ar bD;subst gW;exact oO ⟨[(1000,some 1000),(1001,some 1001),(1002,some 1002),(992,some 45),(1003,some 1003),(1004,some 1004)],rfl,rfl,⟨⟨_,rfl,rfl,rfl,.inl ⟨rfl,aw rfl⟩⟩,⟨_,rfl,rfl,rfl,.inl ⟨rfl,aw rfl⟩⟩,⟨_,rfl,rfl,rfl,.inr ⟨⟨⟨rfl,rfl,rfl⟩,trivial⟩,⟨rfl,trivial⟩⟩⟩,⟨_,rfl,rfl,rfl,aD (enc:=cP) l1 (fun _=>rfl)⟩,⟨_,rfl,rfl,rfl,.inl ⟨rfl,aw rfl⟩⟩,⟨_,rfl,rfl,rfl,.inl ⟨rfl,aw rfl⟩⟩,trivial⟩⟩
     ·replace bD:=aj bD dn;refine mR ?_;refine a_ ?_;have iY:=ar bD;subst iY;exact oO ⟨[(1000,some 1000),(1001,some 1001),(1002,some 1002),(992,some 1192),(1003,some 1003),(1004,some 1004)],rfl,rfl,⟨⟨_,rfl,rfl,rfl,.inl ⟨rfl,aw rfl⟩⟩,⟨_,rfl,rfl,rfl,.inl ⟨rfl,aw rfl⟩⟩,⟨_,rfl,rfl,rfl,.inr ⟨⟨⟨rfl,rfl,rfl⟩,trivial⟩,⟨rfl,trivial⟩⟩⟩,⟨_,rfl,rfl,rfl,aD (enc:=cP) w (fun _=>rfl)⟩,⟨_,rfl,rfl,rfl,.inl ⟨rfl,aw rfl⟩⟩,⟨_,rfl,rfl,rfl,.inl ⟨rfl,aw rfl⟩⟩,trivial⟩⟩
    ·subst hv;replace bc:=bL bc;refine qb (acc:=[]) 8 rfl ?_;refine Zr 5 rfl ?_;refine bg aX p.br ab rfl rfl rfl rfl rfl rfl ?_;refine Zr 2 rfl (aA nd ?_);refine yT rfl ?_;refine ak ?_;refine eC ?_;refine ao (b:=decide (((p.br.length:Nat):Int)≤i)) rfl (fun dS=>?_) (fun dS=>?_)
     ·replace bc:=ai bc dS;refine Ze (aW (aF ?_));obtain⟨t,jr,hq⟩:=aZ bc;subst hq;have hq:t=_:=fC;subst hq;refine aF (aW ?_);have kL:=ar jr;subst kL;refine a8 ⟨_,⟨_,rfl,rfl⟩,[(1000,some 1000),(1001,some 1001),(1002,some 1002),(992,some 600),(1003,some 1003),(1004,some 1004)],rfl,rfl,⟨⟨_,rfl,rfl,rfl,.inl ⟨rfl,aw rfl⟩⟩,⟨_,rfl,rfl,rfl,.inl ⟨rfl,aw rfl⟩⟩,⟨_,rfl,rfl,rfl,.inr ⟨⟨⟨rfl,rfl,rfl⟩,trivial⟩,⟨rfl,trivial⟩⟩⟩,⟨_,rfl,rfl,rfl,aD (enc:=cP) vv (fun _=>rfl)⟩,⟨_,rfl,rfl,rfl,.inl ⟨rfl,aw rfl⟩⟩,⟨_,rfl,rfl,rfl,.inl ⟨rfl,aw rfl⟩⟩,trivial⟩⟩
     ·replace bc:=aj bc dS;refine Zk ?_;refine eC ?_;refine aq 3 rfl ?_;obtain⟨e2,kZ,bc⟩:=ah bc;refine bn aX p.br i e2 kZ ab rfl rfl rfl rfl rfl rfl rfl rfl rfl ?_;refine af 3 rfl (aq 2 rfl ?_);refine aM vO (xm e2.Kind _ rfl) rfl rfl rfl rfl rfl rfl rfl ?_;refine Zn ?_;refine ao (b:=iN e2.Kind) rfl (fun fJ=>?_) (fun fJ=>?_)
      ·replace bc:=ai bc fJ;refine aq 4 rfl ?_;obtain⟨fN,jz,bc⟩:=dH bc;refine aM BW (DS e.en e2 kerf fN jz) rfl rfl rfl rfl rfl rfl rfl ?_;refine af 10 rfl (aQ 12 rfl ?_);obtain⟨l2,ml,bc⟩:=ah bc;refine dY fT l ([(⟨fN.2.2,U (e.level+1)⟩:cB),(⟨fN.1,U (e.level+1)⟩:cB)]) l2 ml (fun _=>rfl) rfl rfl ab rfl rfl rfl rfl rfl rfl rfl rfl rfl rfl rfl rfl rfl rfl rfl rfl rfl ?_;refine Zr 1 rfl (aA nd (a_ (ak ?_)));refine eC ?_;refine aQ 3 rfl (aA nd ?_);have fU:=ar bc;subst fU;refine ak ⟨rfl,(l2,U (i+1),vv),[(4,some 72),(990,some 600),(1002,some 1002),(1003,some 1003),(1004,some 1004),(1000,some 1000),(1001,some 1001)],⟨rfl,rfl,rfl,rfl,rfl,⟨⟨rfl,rfl,rfl⟩,ag _ rfl,trivial⟩,⟨⟨_,rfl,rfl,rfl,aD (enc:=fT) l2 (fun _=>rfl)⟩,⟨_,rfl,rfl,rfl,aD (enc:=cP) vv (fun _=>rfl)⟩,⟨_,rfl,rfl,rfl,.inr ⟨⟨⟨rfl,rfl,rfl⟩,trivial⟩,⟨rfl,trivial⟩⟩⟩,trivial⟩⟩,fC⟩
      ·replace bc:=aj bc fJ;refine b_ (a_ (ak ?_));refine eC ?_;refine aQ 3 rfl (aA nd ?_);have kU:=ar bc;subst kU;refine ak ⟨rfl,(l,U (i+1),vv),[(4,some 4),(990,some 600),(1002,some 1002),(1003,some 1003),(1004,some 1004),(1000,some 1000),(1001,some 1001)],⟨rfl,rfl,rfl,rfl,rfl,⟨⟨rfl,rfl,rfl⟩,ag _ rfl,trivial⟩,⟨⟨_,rfl,rfl,rfl,aD (enc:=fT) l (fun _=>rfl)⟩,⟨_,rfl,rfl,rfl,aD (enc:=cP) vv (fun _=>rfl)⟩,⟨_,rfl,rfl,rfl,.inr ⟨⟨⟨rfl,rfl,rfl⟩,trivial⟩,⟨rfl,trivial⟩⟩⟩,trivial⟩⟩,fC⟩
    ·subst hv;replace bc:=dI bc;refine af 8 rfl ?_;refine ao rfl (fun aL=>?_) Zx;clear aL;refine Ze (aW (aF ?_));obtain⟨t1,mY,hq⟩:=aZ bc;subst hq;have hq:t1=_:=fC;subst hq;refine aF (aW ?_);have im:=ar mY;subst im;refine a8 ⟨_,⟨rfl,_,rfl,rfl⟩,[(1000,some 1000),(1001,some 1001),(1002,some 1002),(992,some 600),(1003,some 1003),(1004,some 1004)],rfl,rfl,⟨⟨_,rfl,rfl,rfl,.inl ⟨rfl,aw rfl⟩⟩,⟨_,rfl,rfl,rfl,.inl ⟨rfl,aw rfl⟩⟩,⟨_,rfl,rfl,rfl,.inr ⟨⟨⟨rfl,rfl,rfl⟩,trivial⟩,⟨rfl,trivial⟩⟩⟩,⟨_,rfl,rfl,rfl,aD (enc:=cP) aR (fun _=>rfl)⟩,⟨_,rfl,rfl,rfl,.inl ⟨rfl,aw rfl⟩⟩,⟨_,rfl,rfl,rfl,.inl ⟨rfl,aw rfl⟩⟩,trivial⟩⟩
   ·replace bc:=aj bc c7;refine bP (aY ?_);obtain⟨t2,qm,hq⟩:=aZ bc;subst hq;have hq:t2=_:=fC;subst hq;refine aY (bQ ?_);have jv:=ar qm;subst jv;refine od ⟨_,⟨_,rfl,rfl⟩,[(1000,some 1000),(1001,some 1001),(1002,some 1002),(992,some 990),(1003,some 1003),(1004,some 1004)],rfl,rfl,⟨⟨_,rfl,rfl,rfl,.inl ⟨rfl,aw rfl⟩⟩,⟨_,rfl,rfl,rfl,.inl ⟨rfl,aw rfl⟩⟩,⟨_,rfl,rfl,rfl,.inr ⟨⟨⟨rfl,rfl,rfl⟩,trivial⟩,⟨rfl,trivial⟩⟩⟩,⟨_,rfl,rfl,rfl,aD (enc:=cP) w (fun _=>rfl)⟩,⟨_,rfl,rfl,rfl,.inl ⟨rfl,aw rfl⟩⟩,⟨_,rfl,rfl,rfl,.inl ⟨rfl,aw rfl⟩⟩,trivial⟩⟩
  ·subst hv;replace h:=bL h;refine aa 3 rfl ?_;refine ed [5] [1000,1001,1003,1004] [(992,some ⟨36,4,cI.map cP⟩)] [(1002,some 1002),(1000,some 1000),(1001,some 1001),(1003,some 1003),(1004,some 1004)] [(4,an cP cI)] [(1002,some ⟨115,1,[an cP cI]⟩)] rfl rfl rfl rfl rfl ⟨rfl,by decide,trivial⟩ ⟨cV rfl rfl (fun _=>rfl),trivial⟩ ⟨⟨_,rfl,rfl,rfl,.inr ⟨⟨cV rfl rfl (fun _=>rfl),trivial⟩,⟨rfl,trivial⟩⟩⟩,trivial⟩ ?_;refine aK ?_;have kX:=ar h;subst kX;refine vW ?_;refine sn ab rfl rfl ?_;exact aB _ rfl
  ·subst hv;cases h
def xx (l:List aV) (bU:(List aJ)×Int) (lv:Int) (aR:Int) (y2:fL):Option ((Int×fL)⊕fL):=
 (bif(decide (aR<((bU.1.length:Nat):Int))) then(β (aC bU.1 aR) (fun e=>(cU (AM e (⟨0,lv⟩:Sp)) (fun ku=>(β (rK l ku) (fun wv=>some (κ ((U (aR+1)),(⟨y2.Log,y2.lj,y2.rm,U (y2.cO+wv),y2.Value⟩:fL))))))))) else some (ι y2))
def xy (l:List aV) (s:cS) (bv:(List gQ)×Int) (lv:Int) (cI:Int) (y5:fL):Option ((Int×fL)⊕fL):=
 (bif(decide (cI<((bv.1.length:Nat):Int))) then(β (aC bv.1 cI) (fun e1=>(β (rK l e1.dX) (fun rO=>(cU (AM (⟨e1.dX.x,e1.dX.y⟩:aJ) (⟨max 0 (U (e1.dX.z.a -s.Trim)),e1.dX.z.a⟩:Sp)) (fun Hq=>(β (rK l Hq) (fun uN=>(cU (AM (⟨e1.dX.x,e1.dX.y⟩:aJ) (⟨e1.dX.z.b,min (U (e1.dX.z.b+s.Trim)) lv⟩:Sp)) (fun Hr=>(β (rK l Hr) (fun Hs=>some (κ ((U (cI+1)),(⟨y5.Log,U (y5.lj+rO),y5.rm,U ((U (y5.cO+uN))+Hs),U (y5.Value+(U (1000000*e1.sr)))⟩:fL))))))))))))))) else some (ι y5))
def xz (l:List aV) (d:List Df) (c:List bh) (p:dR) (s:cS) (vr:da):Option (fL×Int):=
 (β (AL l d c p s vr) (fun cv=>(bif(cv !=0) then some ((⟨0,0,0,0,0⟩:fL),cv) else(β (DY l d c p s vr.dE) (fun bv=>(bif(bv.2!=0) then some ((⟨0,0,0,0,0⟩:fL),bv.2) else(β (D0 p s.bj) (fun bU=>(bif(bU.2!=0) then some ((⟨0,0,0,0,0⟩:fL),bU.2) else(β (nU l) (fun lv=>(β (uK l) (fun vv=>(β ((bb (fun q=>xx l bU lv q.1 q.2) (0,(⟨vv,0,0,0,0⟩:fL))):Option fL) (fun y=>(β ((bb (fun q=>xy l s bv lv q.1 q.2) (0,y)):Option fL) (fun y3=>some ((⟨y3.Log,y3.lj,U ((U (y3.Log -y3.lj)) -y3.cO),y3.cO,U (y3.Value+(U ((U (vr.dF*(U ((U (y3.Log -y3.lj)) -y3.cO))))+(U (vr.cO*y3.cO)))))⟩:fL),0))))))))))))))))))
theorem amb (l:List aV) (d:List Df) (c:List bh) (p:dR) (s:cS) (vr:da) (r:fL×Int) (h:xz l d c p s vr=some r):Holds Tryz.prog 62 [(an cy) l,(an cq) d,(an cL) c,oK p,oJ s,pB vr] [] (.bR [ah' r.1,I r.2]) []:=by
 unfold xz at h;refine bm Tryz.func62 rfl Tryz.ntmps62 rfl rfl rfl (fun lim=>?_);refine aa 5 rfl (ay (aq 6 rfl ?_));obtain⟨cv,bx,h⟩:=ah h;refine aM Ui (Ww l d c p s vr cv bx) rfl rfl rfl rfl rfl rfl rfl ?_;refine af 1 rfl (aa 2 rfl ?_);refine ao (b:=cv !=0) rfl (fun c2=>?_) (fun c2=>?_)
 ·replace h:=ai h c2;refine aa 4 rfl (Ze ?_);cases h;exact a8 (bp ab rfl rfl (aB _ rfl))
 ·replace h:=aj h c2;refine Zk (aq 7 rfl ?_);obtain⟨bv,dt,h⟩:=ah h;refine aM agC (al3 l d c p s vr.dE bv dt) rfl rfl rfl rfl rfl rfl rfl ?_;refine af 5 rfl (ay (aa 2 rfl ?_));refine ao (b:=bv.2!=0) rfl (fun c5=>?_) (fun c5=>?_)
  ·replace h:=ai h c5;refine aa 4 rfl (Ze ?_);cases h;exact a8 (bp ab rfl rfl (aB _ rfl))
  ·replace h:=aj h c5;refine Zk (aq 3 rfl ?_);obtain⟨bU,eU,h⟩:=ah h;refine aM agD (ama p s.bj bU eU) rfl rfl rfl rfl rfl rfl rfl ?_;refine af 5 rfl (ay (aa 2 rfl ?_));refine ao (b:=bU.2!=0) rfl (fun c8=>?_) (fun c8=>?_)
   ·replace h:=ai h c8;refine aa 4 rfl (Ze ?_);cases h;exact a8 (bp ab rfl rfl (aB _ rfl))
   ·replace h:=aj h c8;refine Zk (aq 1 rfl ?_);obtain⟨lv,eO,h⟩:=ah h;refine aM tQ (uv l lv eO) rfl rfl rfl rfl rfl rfl rfl ?_;refine af 1 rfl (aq 1 rfl ?_);obtain⟨vv,eG,h⟩:=ah h;refine aM FT (Hj l vv eG) rfl rfl rfl rfl rfl rfl rfl ?_;refine af 3 rfl ?_;obtain⟨y1,KH,h⟩:=ah h;refine bJ (X:=fL) [0,10,11,12,15,18,19] [10,11,12] (fun w=>[]) (fun w=>[(19,some ⟨55,5,[.agg [I w.Log,I w.lj,I w.rm,I w.cO,I w.Value]]⟩)]) (fun w=>w=y1) rfl rfl ?_ ?_
    ·skip;refine aq 1 rfl ?_;refine bg cP bU.1 ab rfl rfl rfl rfl rfl rfl ?_;refine af 1 rfl (a6 ?_);refine bY (X:=Int×fL) (Y:=fL) [0,10,11,12,15,18,19,68,69] [10,11,12] (fun q=>[(70,I q.1)]) (fun q=>[(19,some ⟨55,5,[.agg [I q.2.Log,I q.2.lj,I q.2.rm,I q.2.cO,I q.2.Value]]⟩)]) (fun q=>xx l bU lv q.1 q.2) (0,(⟨vv,0,0,0,0⟩:fL)) [(19,some 19),(10,some 10),(11,some 11),(12,some 12)] KH ⟨rfl,rfl,rfl,rfl,rfl,⟨ag _ rfl,trivial⟩,⟨⟨_,rfl,rfl,rfl,.inl ⟨rfl,aw rfl⟩⟩,trivial⟩⟩ (fun x vR vz gK y_=>?_);obtain⟨aR,y2⟩:=x;change xx l bU lv aR y2=_ at gK;unfold xx at gK;refine aa 1 rfl (ay ?_);refine ao (b:=decide (aR<((bU.1.length:Nat):Int))) rfl (fun eF=>?_) (fun eF=>?_)
     ·replace gK:=ai gK eF;refine Zk (ay (a6 (ay (eQ bX ?_))));obtain⟨e,gT,gK⟩:=ah gK;refine bn cP bU.1 aR e gT ab rfl rfl rfl rfl rfl rfl rfl rfl rfl ?_;refine af 3 rfl (aQ 6 rfl ?_);obtain⟨ku,h9,gK⟩:=dH gK;refine aM FW (Ho e (⟨0,lv⟩:Sp) ku h9) rfl rfl rfl rfl rfl rfl rfl ?_;obtain⟨wv,lS,gK⟩:=ah gK;refine aM yF (Au l ku wv lS) rfl rfl rfl rfl rfl rfl rfl ?_;refine Zr 3 rfl ?_;refine aA (fun _=>by kernel_rfl) ?_;refine a_ (ak (aQ 2 rfl (aA nd ?_)));have jy:=ar gK;subst jy;refine ak ⟨rfl,((U (aR+1)),(⟨y2.Log,y2.lj,y2.rm,U (y2.cO+wv),y2.Value⟩:fL)),[(19,some 19),(10,some 10),(11,some 11),(12,some 12)],⟨rfl,rfl,rfl,rfl,rfl,⟨ag _ rfl,trivial⟩,⟨⟨_,rfl,rfl,rfl,.inl ⟨rfl,aw rfl⟩⟩,trivial⟩⟩,y_⟩
     ·replace gK:=aj gK eF;refine bP (aY ?_);obtain⟨t,oS,hq⟩:=aZ gK;subst hq;have hq:t=_:=y_;subst hq;refine aY (bQ ?_);have gU:=ar oS;refine ak ⟨rfl,y2,[(19,some 19),(10,some 10),(11,some 11),(12,some 12)],⟨rfl,rfl,rfl,rfl,rfl,trivial,⟨⟨_,rfl,rfl,rfl,.inl ⟨rfl,aw rfl⟩⟩,trivial⟩⟩,gU⟩
    ·intro y KI;subst KI;obtain⟨y4,gZ,h⟩:=ah h;refine bJ (X:=fL) [11,12,19] [11,12] (fun w1=>[]) (fun w1=>[(19,some ⟨55,5,[.agg [I w1.Log,I w1.lj,I w1.rm,I w1.cO,I w1.Value]]⟩)]) (fun w1=>w1=y4) rfl rfl ?_ ?_
     ·skip;refine aq 1 rfl ?_;refine bg iG bv.1 ab rfl rfl rfl rfl rfl rfl ?_;refine af 1 rfl (a6 ?_);refine bY (X:=Int×fL) (Y:=fL) [0,10,11,12,18,19,85,86] [10,11,12] (fun q=>[(87,I q.1)]) (fun q=>[(19,some ⟨55,5,[.agg [I q.2.Log,I q.2.lj,I q.2.rm,I q.2.cO,I q.2.Value]]⟩)]) (fun q=>xy l s bv lv q.1 q.2) (0,y) [(19,some 19),(10,some 10),(11,some 11),(12,some 12)] gZ ⟨rfl,rfl,rfl,rfl,rfl,⟨ag _ rfl,trivial⟩,⟨⟨_,rfl,rfl,rfl,.inl ⟨rfl,aw rfl⟩⟩,trivial⟩⟩ (fun x1 jY gS kB Wx=>?_);obtain⟨cI,y5⟩:=x1;change xy l s bv lv cI y5=_ at kB;unfold xy at kB;refine aa 1 rfl (ay ?_);refine ao (b:=decide (cI<((bv.1.length:Nat):Int))) rfl (fun we=>?_) (fun we=>?_)
      ·replace kB:=ai kB we;refine Zk (ay (a6 (ay (eQ bX ?_))));obtain⟨e1,qA,kB⟩:=ah kB;refine bn iG bv.1 cI e1 qA ab rfl rfl rfl rfl rfl rfl rfl rfl rfl ?_;refine af 3 rfl (aq 5 rfl ?_);obtain⟨rO,rC,kB⟩:=ah kB;refine aM yF (Au l e1.dX rO rC) rfl rfl rfl rfl rfl rfl rfl ?_;refine Zr 3 rfl ?_;refine aA (fun _=>by kernel_rfl) ?_;refine ak (aa 8 rfl (aa 9 rfl (aa 5 rfl (aq 13 rfl ?_))));obtain⟨Hq,nO,kB⟩:=dH kB;refine aM FW (Ho (⟨e1.dX.x,e1.dX.y⟩:aJ) (⟨max 0 (U (e1.dX.z.a -s.Trim)),e1.dX.z.a⟩:Sp) Hq nO) rfl rfl rfl rfl rfl rfl rfl ?_;obtain⟨uN,qo,kB⟩:=ah kB;refine aM yF (Au l Hq uN qo) rfl rfl rfl rfl rfl rfl rfl ?_;refine Zr 3 rfl ?_;refine aA (fun _=>by kernel_rfl) ?_;refine ak (aQ 14 rfl ?_);obtain⟨Hr,qk,kB⟩:=dH kB;refine aM FW (Ho (⟨e1.dX.x,e1.dX.y⟩:aJ) (⟨e1.dX.z.b,min (U (e1.dX.z.b+s.Trim)) lv⟩:Sp) Hr qk) rfl rfl rfl rfl rfl rfl rfl ?_;obtain⟨Hs,nc,kB⟩:=ah kB;refine aM yF (Au l Hr Hs nc) rfl rfl rfl rfl rfl rfl rfl ?_;refine Zr 3 rfl ?_;refine aA (fun _=>by kernel_rfl) ?_;refine a_ (ak (aQ 2 rfl (aA nd ?_)));have sF:=ar kB;subst sF;refine ak ⟨rfl,((U (cI+1)),(⟨y5.Log,U (y5.lj+rO),y5.rm,U ((U (y5.cO+uN))+Hs),U (y5.Value+(U (1000000*e1.sr)))⟩:fL)),[(19,some 19),(10,some 10),(11,some 11),(12,some 12)],⟨rfl,rfl,rfl,rfl,rfl,⟨ag _ rfl,trivial⟩,⟨⟨_,rfl,rfl,rfl,.inl ⟨rfl,aw rfl⟩⟩,trivial⟩⟩,Wx⟩
      ·replace kB:=aj kB we;refine bP (aY ?_);obtain⟨t1,sJ,hq⟩:=aZ kB;subst hq;have hq:t1=_:=Wx;subst hq;refine aY (bQ ?_);have sS:=ar sJ;refine ak ⟨rfl,y5,[(19,some 19),(11,some 11),(12,some 12)],⟨rfl,rfl,rfl,rfl,rfl,trivial,⟨⟨_,rfl,rfl,rfl,.inl ⟨rfl,aw rfl⟩⟩,trivial⟩⟩,sS⟩
     ·intro y3 CP;subst CP;refine aa 10 rfl (aa 16 rfl (aa 3 rfl (aK ?_)));cases h;exact a8 (bp ab rfl rfl (aB _ rfl))
def D3 (w:nK) (p:dR):Option (Int×Int):=
 (β (xz w.gz w.dm w.dT p w.dW w.gy) (fun ov=>some (ov.1.Value,ov.2)))
theorem amc (w:nK) (p:dR) (r:Int×Int) (h:D3 w p=some r):Holds Tryz.prog 21 [J4 w,oK p] [] (.bR [I r.1,I r.2]) []:=by
 unfold D3 at h;refine bm Tryz.func21 rfl Tryz.ntmps21 rfl rfl rfl (fun lim=>?_);refine aa 4 rfl (aq 11 rfl ?_);obtain⟨ov,bx,h⟩:=ah h;refine aM aga (amb w.gz w.dm w.dT p w.dW w.gy ov bx) rfl rfl rfl rfl rfl rfl rfl ?_;refine af 6 rfl (aa 5 rfl (aK ?_));cases h;exact a8 (bp ab rfl rfl (aB _ rfl))
theorem L9:lI Tryz.prog F6 36=true:=by kernel_rfl
theorem L_:(Tryz.prog).eqGuardType (Tryz.prog).depth 36=false:=by kernel_rfl
def xA (t:me) (bv:fi×Int) (av:(List fi)×Int) (pH:Int) (i:Int):Option ((Int×Int)⊕(Bool⊕Unit)):=
 (bif(decide (i<4)) then(β (lU t.Scan i t.mN t.mO) (fun pv=>(β (aC av.1 i) (fun e1=>(β (D3 (⟨pv.1,pv.2.1,t.dT,t.dW,t.gy⟩:nK) e1.Pattern) (fun vv=>(β ((bif(i==0) then(β (nU pv.1) (fun lv=>some lv)) else some pH):Option Int) (fun lr=>(bif(pv.2.2!=0) then some (ι (κ false)) else(bif(vv.2!=0) then some (ι (κ false)) else(β (aC av.1 i) (fun e2=>(bif(e2.oL !=i) then some (ι (κ false)) else(β (aC av.1 i) (fun e3=>(bif(vv.1!=e3.Value) then some (ι (κ false)) else(β (aC av.1 i) (fun e4=>(bif(decide (bv.1.Value<e4.Value)) then some (ι (κ false)) else(bif(decide (i<bv.1.oL)) then(β (aC av.1 i) (fun e5=>(bif(e5.Value==bv.1.Value) then some (ι (κ false)) else(β (aC av.1 i) (fun e6=>(β (oZ pv.1) (fun fv=>(bif(!(gx cP e6.Pattern.Frame fv)) then some (ι (κ false)) else(bif(((pv.2.1.length:Nat):Int)!=((t.Scan.dm.length:Nat):Int)) then some (ι (κ false)) else(β (nU pv.1) (fun o5=>(bif(o5 !=lr) then some (ι (κ false)) else some (κ (lr,U (i+1))))))))))))))) else(β (aC av.1 i) (fun e7=>(β (oZ pv.1) (fun nh=>(bif(!(gx cP e7.Pattern.Frame nh)) then some (ι (κ false)) else(bif(((pv.2.1.length:Nat):Int)!=((t.Scan.dm.length:Nat):Int)) then some (ι (κ false)) else(β (nU pv.1) (fun Ht=>(bif(Ht !=lr) then some (ι (κ false)) else some (κ (lr,U (i+1)))))))))))))))))))))))))))))))) else some (ι (ι ())))
def D4 (t:me) (dw:Int):Option Bool:=
 (β (Ct t) (fun sv=>(bif(!sv) then(β uM (fun tv=>some tv)) else(β (s_ t.Scan t.dT t.dW t.gy t.mN t.mO) (fun bv=>(β (qQ t.Scan t.dT t.dW t.gy t.mN t.mO) (fun av=>(bif(bv.2!=av.2) then some false else(bif(bv.2!=0) then(bif(((av.1.length:Nat):Int)==0) then(bif(bv.1.Value==0) then(bif(((bv.1.Pattern.br.length:Nat):Int)==0) then(β uM (fun rG=>some rG)) else some false) else some false) else some false) else(bif(((av.1.length:Nat):Int)!=4) then some false else(bif(decide (bv.1.oL<0)) then some false else(bif(decide (3<bv.1.oL)) then some false else(β (aC av.1 bv.1.oL) (fun e=>(bif(e.Value !=bv.1.Value) then some false else(β ((bb (fun q=>xA t bv av q.1 q.2) (0,0)):Option (Bool⊕Unit)) (Sum.elim (fun q=>some q) (fun _=>(β (lU t.Scan dw t.mN t.mO) (fun fN=>(β (lU t.Scan (Int.tmod (U ((Int.tmod dw 4)+4)) 4) t.mN t.mO) (fun iJ=>(bif(fN.2.2==0) then(bif(iJ.2.2==0) then(β (uK fN.1) (fun aR=>(β (uK iJ.1) (fun cI=>(bif(aR==cI) then(β (oZ fN.1) (fun L'=>(β (oZ iJ.1) (fun Ma=>(bif(gx cP L' Ma) then(β uM (fun Mb=>some Mb)) else some false))))) else some false))))) else some false) else some false)))))))))))))))))))))))
theorem amd (t:me) (dw:Int) (r:Bool) (h:D4 t dw=some r):Holds Tryz.prog 4 [F5 t,I dw] [] (B r) []:=by
 unfold D4 at h;refine bm Tryz.func4 rfl Tryz.ntmps4 rfl rfl rfl (fun lim=>?_);refine aa 2 rfl (ay (aq 1 rfl ?_));obtain⟨sv,bx,h⟩:=ah h;refine aM fn5 (ajD t sv bx) rfl rfl rfl rfl rfl rfl rfl ?_;refine af 1 rfl ?_;refine ao (b:=!sv) rfl (fun c2=>?_) (fun c2=>?_)
 ·replace h:=ai h c2;refine ay (eQ bX ?_);obtain⟨tv,fx,h⟩:=ah h;refine aM JI (LL tv fx) rfl rfl rfl rfl rfl rfl rfl ?_;refine af 1 rfl (Ze ?_);exact Zq h rfl rfl rfl
 ·replace h:=aj h c2;refine Zk (aq 12 rfl ?_);obtain⟨bv,eV,h⟩:=ah h;refine aM T7 (Wt t.Scan t.dT t.dW t.gy t.mN t.mO bv eV) rfl rfl rfl rfl rfl rfl rfl ?_;refine af 6 rfl (aq 12 rfl ?_);obtain⟨av,dM,h⟩:=ah h;refine aM JJ (LK t.Scan t.dT t.dW t.gy t.mN t.mO av dM) rfl rfl rfl rfl rfl rfl rfl ?_;refine af 5 rfl (ay (aa 3 rfl ?_));refine ao (b:=bv.2!=av.2) rfl (fun c7=>?_) (fun c7=>?_)
  ·replace h:=ai h c7;refine aa 1 rfl (Ze ?_);exact Zq h rfl rfl rfl
  ·replace h:=aj h c7;refine Zk (ay (aa 2 rfl ?_));refine ao (b:=bv.2!=0) rfl (fun c9=>?_) (fun c9=>?_)
   ·replace h:=ai h c9;refine aq 1 rfl ?_;refine bg iF av.1 ab rfl rfl rfl rfl rfl rfl ?_;refine Zr 2 rfl ?_;refine bd rfl rfl rfl (fun g10=>?_) (fun g10=>?_)
    ·rw [g10];replace h:=ai h g10;refine Zr 5 rfl ?_;refine bd rfl rfl rfl (fun g11=>?_) (fun g11=>?_)
     ·rw [g11];replace h:=ai h g11;refine Zr 3 rfl ?_;refine bg aX bv.1.Pattern.br ab rfl rfl rfl rfl rfl rfl ?_;refine Zr 3 rfl ?_;refine bd rfl rfl rfl (fun g12=>?_) (fun g12=>?_)
      ·rw [g12];replace h:=ai h g12;obtain⟨rG,fV,h⟩:=ah h;refine aM JI (LL rG fV) rfl rfl rfl rfl rfl rfl rfl ?_;refine af 2 rfl (Ze ?_);exact Zq h rfl rfl rfl
      ·rw [g12];replace h:=aj h g12;refine af 3 rfl (Ze ?_);exact Zq h rfl rfl rfl
     ·rw [g11];replace h:=aj h g11;refine af 10 rfl (Ze ?_);exact Zq h rfl rfl rfl
    ·rw [g10];replace h:=aj h g10;refine af 15 rfl (Ze ?_);exact Zq h rfl rfl rfl
   ·replace h:=aj h c9;refine Zk (ay (aq 1 rfl ?_));refine bg iF av.1 ab rfl rfl rfl rfl rfl rfl ?_;refine Zr 2 rfl ?_;refine bd rfl rfl rfl (fun g18=>?_) (fun g18=>?_)
    ·rw [g18];replace h:=ai h g18;refine Zr 20 rfl ?_;refine aA (fun _=>by kernel_rfl) ?_;refine ak ?_;refine ao rfl (fun aL=>?_) Zx;clear aL;refine aa 1 rfl (Ze ?_);exact Zq h rfl rfl rfl
    ·rw [g18];replace h:=aj h g18;refine Zr 5 rfl ?_;refine bd rfl rfl rfl (fun g20=>?_) (fun g20=>?_)
     ·rw [g20];replace h:=ai h g20;refine Zr 15 rfl ?_;refine aA (fun _=>by kernel_rfl) ?_;refine ak ?_;refine ao rfl (fun aL=>?_) Zx;clear aL;refine aa 1 rfl (Ze ?_);exact Zq h rfl rfl rfl
     ·rw [g20];replace h:=aj h g20;refine Zr 5 rfl ?_;refine bd rfl rfl rfl (fun g22=>?_) (fun g22=>?_)
      ·rw [g22];replace h:=ai h g22;refine Zr 10 rfl ?_;refine aA (fun _=>by kernel_rfl) ?_;refine ak ?_;refine ao rfl (fun aL=>?_) Zx;clear aL;refine aa 1 rfl (Ze ?_);exact Zq h rfl rfl rfl
      ·rw [g22];replace h:=aj h g22;refine Zr 3 rfl ?_;obtain⟨e,qF,h⟩:=ah h;refine bn iF av.1 bv.1.oL e qF ab rfl rfl rfl rfl rfl rfl rfl rfl rfl ?_;refine Zr 6 rfl ?_;refine aA (fun _=>by kernel_rfl) ?_;refine ak ?_;refine ao (b:=e.Value !=bv.1.Value) rfl (fun gC=>?_) (fun gC=>?_)
       ·replace h:=ai h gC;refine aa 1 rfl (Ze ?_);exact Zq h rfl rfl rfl
       ·replace h:=aj h gC;refine Zk (aa 1 rfl ?_);obtain⟨y,ame,h⟩:=ah h;refine bJ (X:=Unit) [1,2] [2] (fun _=>[]) (fun _=>[]) (fun w=>ι w=y) rfl rfl ?_ ?_
        ·skip;refine aa 1 rfl (a6 ?_);refine bY (X:=Int×Int) (Y:=Bool⊕Unit) [1,2,5,7] [2,5] (fun q=>[(9,I q.1),(10,I q.2)]) (fun q=>[]) (fun q=>xA t bv av q.1 q.2) (0,0) [(2,some 2),(5,some 5)] ame ⟨rfl,rfl,rfl,rfl,rfl,⟨ag _ rfl,ag _ rfl,trivial⟩,trivial⟩ (fun x vR vz b5 nt=>?_);obtain⟨pH,i⟩:=x;change xA t bv av pH i=_ at b5;unfold xA at b5;refine ay (aa 2 rfl ?_);refine ao (b:=decide (i<4)) rfl (fun qN=>?_) (fun qN=>?_)
         ·replace b5:=ai b5 qN;refine Zk (ay (a6 (aq 7 rfl ?_)));obtain⟨pv,qk,b5⟩:=ah b5;refine aM FR (GS t.Scan i t.mN t.mO pv qk) rfl rfl rfl rfl rfl rfl rfl ?_;refine af 7 rfl (aa 11 rfl (aq 3 rfl ?_));obtain⟨e1,nc,b5⟩:=ah b5;refine bn iF av.1 i e1 nc ab rfl rfl rfl rfl rfl rfl rfl rfl rfl ?_;refine Zr 2 rfl ?_;obtain⟨vv,ui,b5⟩:=ah b5;refine aM af2 (amc (⟨pv.1,pv.2.1,t.dT,t.dW,t.gy⟩:nK) e1.Pattern vv ui) rfl rfl rfl rfl rfl rfl rfl ?_;refine Zr 5 rfl ?_;refine aA (fun _=>by kernel_rfl) ?_;refine ak ?_;obtain⟨y1,rD,b5⟩:=ah b5;refine bJ (X:=Int) [1,2,5,7,10,11,12,13,15,16] [2,5] (fun w1=>[(9,I w1)]) (fun w1=>[]) (fun w1=>w1=y1) rfl rfl ?_ ?_
          ·skip;refine aa 2 rfl ?_;refine ao (b:=i==0) rfl (fun wJ=>?_) (fun wJ=>?_)
           ·replace rD:=ai rD wJ;refine aQ 1 rfl ?_;obtain⟨lv,zC,rD⟩:=ah rD;refine aM tQ (uv pv.1 lv zC) rfl rfl rfl rfl rfl rfl rfl ?_;refine Zr 1 rfl (aA nd ?_);have qB:=ar rD;refine ak ⟨rfl,lv,[(2,some 2),(5,some 5)],⟨rfl,rfl,rfl,rfl,rfl,⟨ag _ rfl,trivial⟩,trivial⟩,qB⟩
           ·replace rD:=aj rD wJ;refine b_ ?_;have qu:=ar rD;refine ak ⟨rfl,pH,[(2,some 2),(5,some 5)],⟨rfl,rfl,rfl,rfl,rfl,⟨ag _ rfl,trivial⟩,trivial⟩,qu⟩
          ·intro lr KQ;subst KQ;refine aq 3 rfl ?_;refine bd rfl rfl rfl (fun ql=>?_) (fun ql=>?_)
           ·rw [ql];replace b5:=ai b5 ql;refine Zr 73 rfl ?_;refine aA (fun _=>by kernel_rfl) ?_;refine ak ?_;refine ao rfl (fun aL=>?_) Zx;clear aL;refine aa 1 rfl (aK (aW (aF ?_)));obtain⟨t1,qi,hq⟩:=aZ b5;subst hq;have hq:t1=_:=nt;subst hq;refine aF (aW ?_);obtain⟨t2,oQ,hq⟩:=bT qi;subst hq;have hq:=bL h;replace hq:=ar hq;subst hq;refine aF ?_;exact Zq oQ rfl rfl rfl
           ·rw [ql];replace b5:=aj b5 ql;refine Zr 4 rfl ?_;refine bd rfl rfl rfl (fun D5=>?_) (fun D5=>?_)
            ·rw [D5];replace b5:=ai b5 D5;refine Zr 69 rfl ?_;refine aA (fun _=>by kernel_rfl) ?_;refine ak ?_;refine ao rfl (fun aL=>?_) Zx;clear aL;refine aa 1 rfl (aK (aW (aF ?_)));obtain⟨t3,v_,hq⟩:=aZ b5;subst hq;have hq:t3=_:=nt;subst hq;refine aF (aW ?_);obtain⟨t4,Cz,hq⟩:=bT v_;subst hq;have hq:=bL h;replace hq:=ar hq;subst hq;refine aF ?_;exact Zq Cz rfl rfl rfl
            ·rw [D5];replace b5:=aj b5 D5;refine Zr 2 rfl ?_;obtain⟨e2,wg,b5⟩:=ah b5;refine bn iF av.1 i e2 wg ab rfl rfl rfl rfl rfl rfl rfl rfl rfl ?_;refine Zr 6 rfl ?_;refine bd rfl rfl rfl (fun D6=>?_) (fun D6=>?_)
             ·rw [D6];replace b5:=ai b5 D6;refine Zr 60 rfl ?_;refine aA (fun _=>by kernel_rfl) ?_;refine ak ?_;refine ao rfl (fun aL=>?_) Zx;clear aL;refine aa 1 rfl (aK (aW (aF ?_)));obtain⟨t5,KY,hq⟩:=aZ b5;subst hq;have hq:t5=_:=nt;subst hq;refine aF (aW ?_);obtain⟨t6,wi,hq⟩:=bT KY;subst hq;have hq:=bL h;replace hq:=ar hq;subst hq;refine aF ?_;exact Zq wi rfl rfl rfl
             ·rw [D6];replace b5:=aj b5 D6;refine Zr 3 rfl ?_;obtain⟨e3,amf,b5⟩:=ah b5;refine bn iF av.1 i e3 amf ab rfl rfl rfl rfl rfl rfl rfl rfl rfl ?_;refine Zr 5 rfl ?_;refine bd rfl rfl rfl (fun D7=>?_) (fun D7=>?_)
              ·rw [D7];replace b5:=ai b5 D7;refine Zr 51 rfl ?_;refine aA (fun _=>by kernel_rfl) ?_;refine ak ?_;refine ao rfl (fun aL=>?_) Zx;clear aL;refine aa 1 rfl (aK (aW (aF ?_)));obtain⟨t7,K0,hq⟩:=aZ b5;subst hq;have hq:t7=_:=nt;subst hq;refine aF (aW ?_);obtain⟨t8,CD,hq⟩:=bT K0;subst hq;have hq:=bL h;replace hq:=ar hq;subst hq;refine aF ?_;exact Zq CD rfl rfl rfl
              ·rw [D7];replace b5:=aj b5 D7;refine Zr 2 rfl ?_;obtain⟨e4,K8,b5⟩:=ah b5;refine bn iF av.1 i e4 K8 ab rfl rfl rfl rfl rfl rfl rfl rfl rfl ?_;refine Zr 7 rfl ?_;refine bd rfl rfl rfl (fun D8=>?_) (fun D8=>?_)
               ·rw [D8];replace b5:=ai b5 D8;refine Zr 41 rfl ?_;refine aA (fun _=>by kernel_rfl) ?_;refine ak ?_;refine ao rfl (fun aL=>?_) Zx;clear aL;refine aa 1 rfl (aK (aW (aF ?_)));obtain⟨t9,Lt,hq⟩:=aZ b5;subst hq;have hq:t9=_:=nt;subst hq;refine aF (aW ?_);obtain⟨t10,Lu,hq⟩:=bT Lt;subst hq;have hq:=bL h;replace hq:=ar hq;subst hq;refine aF ?_;exact Zq Lu rfl rfl rfl
               ·rw [D8];replace b5:=aj b5 D8;refine Zr 5 rfl ?_;refine bd rfl rfl rfl (fun D9=>?_) (fun D9=>?_)
                ·rw [D9];replace b5:=ai b5 D9;refine Zr 2 rfl ?_;obtain⟨e5,amg,b5⟩:=ah b5;refine bn iF av.1 i e5 amg ab rfl rfl rfl rfl rfl rfl rfl rfl rfl ?_;refine Zr 8 rfl ?_;refine bd rfl rfl rfl (fun D_=>?_) (fun D_=>?_)
                 ·rw [D_];replace b5:=ai b5 D_;refine Zr 25 rfl ?_;refine aA (fun _=>by kernel_rfl) ?_;refine ak ?_;refine ao rfl (fun aL=>?_) Zx;clear aL;refine aa 1 rfl (aK (aW (aF ?_)));obtain⟨t11,amh,hq⟩:=aZ b5;subst hq;have hq:t11=_:=nt;subst hq;refine aF (aW ?_);obtain⟨t12,ami,hq⟩:=bT amh;subst hq;have hq:=bL h;replace hq:=ar hq;subst hq;refine aF ?_;exact Zq ami rfl rfl rfl
                 ·rw [D_];replace b5:=aj b5 D_;refine Zr 2 rfl ?_;obtain⟨e6,amj,b5⟩:=ah b5;refine bn iF av.1 i e6 amj ab rfl rfl rfl rfl rfl rfl rfl rfl rfl ?_;refine Zr 4 rfl ?_;obtain⟨fv,amk,b5⟩:=ah b5;refine aM BS (Dc pv.1 fv amk) rfl rfl rfl rfl rfl rfl rfl ?_;refine eL rfl (tL F6 rfl L9 L_ (by decide) rfl rfl rfl rfl rfl) rfl rfl rfl ?_;refine Zr 2 rfl ?_;refine bd rfl rfl rfl (fun Ea=>?_) (fun Ea=>?_)
                  ·rw [Ea];replace b5:=ai b5 Ea;refine Zr 14 rfl ?_;refine aA (fun _=>by kernel_rfl) ?_;refine ak ?_;refine ao rfl (fun aL=>?_) Zx;clear aL;refine aa 1 rfl (aK (aW (aF ?_)));obtain⟨t13,aml,hq⟩:=aZ b5;subst hq;have hq:t13=_:=nt;subst hq;refine aF (aW ?_);obtain⟨t14,Lb,hq⟩:=bT aml;subst hq;have hq:=bL h;replace hq:=ar hq;subst hq;refine aF ?_;exact Zq Lb rfl rfl rfl
                  ·rw [Ea];replace b5:=aj b5 Ea;refine Zr 1 rfl ?_;refine bg cq pv.2.1 ab rfl rfl rfl rfl rfl rfl ?_;refine Zr 3 rfl ?_;refine bg cq t.Scan.dm ab rfl rfl rfl rfl rfl rfl ?_;refine Zr 3 rfl ?_;refine bd rfl rfl rfl (fun Eb=>?_) (fun Eb=>?_)
                   ·rw [Eb];replace b5:=ai b5 Eb;refine Zr 5 rfl ?_;refine aA (fun _=>by kernel_rfl) ?_;refine ak ?_;refine ao rfl (fun aL=>?_) Zx;clear aL;refine aa 1 rfl (aK (aW (aF ?_)));obtain⟨t15,amm,hq⟩:=aZ b5;subst hq;have hq:t15=_:=nt;subst hq;refine aF (aW ?_);obtain⟨t16,amn,hq⟩:=bT amm;subst hq;have hq:=bL h;replace hq:=ar hq;subst hq;refine aF ?_;exact Zq amn rfl rfl rfl
                   ·rw [Eb];replace b5:=aj b5 Eb;refine Zr 1 rfl ?_;obtain⟨o5,amo,b5⟩:=ah b5;refine aM tQ (uv pv.1 o5 amo) rfl rfl rfl rfl rfl rfl rfl ?_;refine Zr 3 rfl ?_;refine aA (fun _=>by kernel_rfl) ?_;refine ak ?_;refine ao (b:=o5 !=lr) rfl (fun Mc=>?_) (fun Mc=>?_)
                    ·replace b5:=ai b5 Mc;refine aa 1 rfl (aK (aW (aF ?_)));obtain⟨t17,amp,hq⟩:=aZ b5;subst hq;have hq:t17=_:=nt;subst hq;refine aF (aW ?_);obtain⟨t18,amq,hq⟩:=bT amp;subst hq;have hq:=bL h;replace hq:=ar hq;subst hq;refine aF ?_;exact Zq amq rfl rfl rfl
                    ·replace b5:=aj b5 Mc;refine b_ (a_ (ak (aQ 3 rfl (aA nd ?_))));have e85:=ar b5;subst e85;refine ak ⟨rfl,(lr,U (i+1)),[(2,some 2),(5,some 5)],⟨rfl,rfl,rfl,rfl,rfl,⟨ag _ rfl,ag _ rfl,trivial⟩,trivial⟩,nt⟩
                ·rw [D9];replace b5:=aj b5 D9;refine Zr 13 rfl ?_;obtain⟨e7,ams,b5⟩:=ah b5;refine bn iF av.1 i e7 ams ab rfl rfl rfl rfl rfl rfl rfl rfl rfl ?_;refine Zr 4 rfl ?_;obtain⟨nh,amt,b5⟩:=ah b5;refine aM BS (Dc pv.1 nh amt) rfl rfl rfl rfl rfl rfl rfl ?_;refine eL rfl (tL F6 rfl L9 L_ (by decide) rfl rfl rfl rfl rfl) rfl rfl rfl ?_;refine Zr 2 rfl ?_;refine bd rfl rfl rfl (fun Ec=>?_) (fun Ec=>?_)
                 ·rw [Ec];replace b5:=ai b5 Ec;refine Zr 14 rfl ?_;refine aA (fun _=>by kernel_rfl) ?_;refine ak ?_;refine ao rfl (fun aL=>?_) Zx;clear aL;refine aa 1 rfl (aK (aW (aF ?_)));obtain⟨t19,amu,hq⟩:=aZ b5;subst hq;have hq:t19=_:=nt;subst hq;refine aF (aW ?_);obtain⟨t20,amv,hq⟩:=bT amu;subst hq;have hq:=bL h;replace hq:=ar hq;subst hq;refine aF ?_;exact Zq amv rfl rfl rfl
                 ·rw [Ec];replace b5:=aj b5 Ec;refine Zr 1 rfl ?_;refine bg cq pv.2.1 ab rfl rfl rfl rfl rfl rfl ?_;refine Zr 3 rfl ?_;refine bg cq t.Scan.dm ab rfl rfl rfl rfl rfl rfl ?_;refine Zr 3 rfl ?_;refine bd rfl rfl rfl (fun Ed=>?_) (fun Ed=>?_)
                  ·rw [Ed];replace b5:=ai b5 Ed;refine Zr 5 rfl ?_;refine aA (fun _=>by kernel_rfl) ?_;refine ak ?_;refine ao rfl (fun aL=>?_) Zx;clear aL;refine aa 1 rfl (aK (aW (aF ?_)));obtain⟨t21,amw,hq⟩:=aZ b5;subst hq;have hq:t21=_:=nt;subst hq;refine aF (aW ?_);obtain⟨t22,amx,hq⟩:=bT amw;subst hq;have hq:=bL h;replace hq:=ar hq;subst hq;refine aF ?_;exact Zq amx rfl rfl rfl
                  ·rw [Ed];replace b5:=aj b5 Ed;refine Zr 1 rfl ?_;obtain⟨Ht,amy,b5⟩:=ah b5;refine aM tQ (uv pv.1 Ht amy) rfl rfl rfl rfl rfl rfl rfl ?_;refine Zr 3 rfl ?_;refine aA (fun _=>by kernel_rfl) ?_;refine ak ?_;refine ao (b:=Ht !=lr) rfl (fun Md=>?_) (fun Md=>?_)
                   ·replace b5:=ai b5 Md;refine aa 1 rfl (aK (aW (aF ?_)));obtain⟨t23,amz,hq⟩:=aZ b5;subst hq;have hq:t23=_:=nt;subst hq;refine aF (aW ?_);obtain⟨t24,amA,hq⟩:=bT amz;subst hq;have hq:=bL h;replace hq:=ar hq;subst hq;refine aF ?_;exact Zq amA rfl rfl rfl
                   ·replace b5:=aj b5 Md;refine b_ (a_ (ak (aQ 3 rfl (aA nd ?_))));have amB:=ar b5;subst amB;refine ak ⟨rfl,(lr,U (i+1)),[(2,some 2),(5,some 5)],⟨rfl,rfl,rfl,rfl,rfl,⟨ag _ rfl,ag _ rfl,trivial⟩,trivial⟩,nt⟩
         ·replace b5:=aj b5 qN;refine bP (aY ?_);obtain⟨t25,amC,hq⟩:=aZ b5;subst hq;have hq:t25=_:=nt;subst hq;refine aY (bQ ?_);have amD:=ar amC;refine ak ⟨rfl,(),[(2,some 2)],⟨rfl,rfl,rfl,rfl,rfl,trivial,trivial⟩,amD⟩
        ·intro w amE;subst amE;replace h:=dI h;refine aq 7 rfl ?_;obtain⟨fN,amF,h⟩:=ah h;refine aM FR (GS t.Scan dw t.mN t.mO fN amF) rfl rfl rfl rfl rfl rfl rfl ?_;refine af 7 rfl (aq 10 rfl ?_);obtain⟨iJ,amG,h⟩:=ah h;refine aM FR (GS t.Scan (Int.tmod (U ((Int.tmod dw 4)+4)) 4) t.mN t.mO iJ amG) rfl rfl rfl rfl rfl rfl rfl ?_;refine af 7 rfl (aq 3 rfl ?_);refine bd rfl rfl rfl (fun Ee=>?_) (fun Ee=>?_)
         ·rw [Ee];replace h:=ai h Ee;refine Zr 4 rfl ?_;refine bd rfl rfl rfl (fun Ef=>?_) (fun Ef=>?_)
          ·rw [Ef];replace h:=ai h Ef;refine Zr 1 rfl ?_;obtain⟨aR,amH,h⟩:=ah h;refine aM FT (Hj fN.1 aR amH) rfl rfl rfl rfl rfl rfl rfl ?_;refine Zr 1 rfl ?_;obtain⟨cI,amI,h⟩:=ah h;refine aM FT (Hj iJ.1 cI amI) rfl rfl rfl rfl rfl rfl rfl ?_;refine Zr 3 rfl ?_;refine bd rfl rfl rfl (fun Eg=>?_) (fun Eg=>?_)
           ·rw [Eg];replace h:=ai h Eg;refine Zr 1 rfl ?_;obtain⟨L',amJ,h⟩:=ah h;refine aM BS (Dc fN.1 L' amJ) rfl rfl rfl rfl rfl rfl rfl ?_;refine Zr 1 rfl ?_;obtain⟨Ma,amK,h⟩:=ah h;refine aM BS (Dc iJ.1 Ma amK) rfl rfl rfl rfl rfl rfl rfl ?_;refine eL rfl (FH F6 rfl L9 L_ (by decide) rfl rfl rfl rfl rfl) rfl rfl rfl ?_;refine Zr 2 rfl ?_;refine bd rfl rfl rfl (fun Eh=>?_) (fun Eh=>?_)
            ·rw [Eh];replace h:=ai h Eh;obtain⟨Mb,amL,h⟩:=ah h;refine aM JI (LL Mb amL) rfl rfl rfl rfl rfl rfl rfl ?_;refine af 2 rfl (aK ?_);exact Zq h rfl rfl rfl
            ·rw [Eh];replace h:=aj h Eh;refine af 3 rfl (aK ?_);exact Zq h rfl rfl rfl
           ·rw [Eg];replace h:=aj h Eg;refine af 10 rfl (aK ?_);exact Zq h rfl rfl rfl
          ·rw [Ef];replace h:=aj h Ef;refine af 17 rfl (aK ?_);exact Zq h rfl rfl rfl
         ·rw [Ee];replace h:=aj h Ee;refine af 21 rfl (aK ?_);exact Zq h rfl rfl rfl
theorem bu {n:Int} (h1:-9223372036854775808≤n) (h2:n≤9223372036854775807):U n=n:=ahx h1 h2
theorem bK {k:Nat} (h:k<9223372036854775807):U ((k:Int)+1)=((k+1:Nat):Int):=by
  rw [bu (by omega) (by omega)];rfl
theorem aN {α β:Type} (a:α) (f:α→Option β):(some a).bind f=f a:=rfl
section
variable{X Y:Type} {step:X→Option (X⊕Y)}
theorem n4 (st:Nat→X) (k:Nat) {y:Y} (h:∀j,j<k→step (st j)=some (.inl (st (j+1)))) (he:step (st k)=some (.inr y)):bb step (st 0)=some y:=by
  have:∀j,j≤k→bb step (st (k -j))=some y:=by
    intro j
    induction j with
    |zero=>intro _;exact fr he
    |succ j ih=>
      intro hj;rw [iU (h (k -(j+1)) (by omega)),show k -(j+1)+1=k -j by omega]
      exact ih (by omega)
  simpa using this k (Nat.le_refl _)
theorem Wy {α:Type} (l:List α) (st:Nat→X) (p:α→Bool) (out:α→Y) (fin:Y)
    (h1:∀j (hj:j<l.length),p l[j]=false→step (st j)=some (.inl (st (j+1)))) (h2:∀j (hj:j<l.length),p l[j]=true→step (st j)=some (.inr (out l[j]))) (h3:step (st l.length)=some (.inr fin)):
    bb step (st 0)=some ((l.find? p).elim fin out):=by
  cases hf:l.find? p with
  |none=>
    rw [List.find?_eq_none] at hf;refine n4 st l.length (fun j hj=>h1 j hj ?_) h3;have:=hf l[j] (List.getElem_mem hj);simpa using this
  |some a=>
    rw [List.find?_eq_some_iff_getElem] at hf;obtain⟨hp,i,hi,hia,bB⟩:=hf;refine n4 st i (fun j hj=>h1 j (by omega) ?_) ?_
    · simpa using bB j hj
    · subst hia
      exact h2 i hi hp
theorem Me {α S:Type} (l:List α) (f:S→α→S) (s0:S) (mk:S→Nat→X) (out:S→Y) (I:Nat→S→Prop) (h0:I 0 s0) (hI:∀j s (hj:j<l.length),I j s→I (j+1) (f s l[j]))
    (h:∀s j (hj:j<l.length),I j s→step (mk s j)=some (.inl (mk (f s l[j]) (j+1)))) (he:∀s,I l.length s→step (mk s l.length)=some (.inr (out s))):bb step (mk s0 0)=some (out (l.foldl f s0)):=by
  have hF:∀j,j≤l.length→I j ((l.take j).foldl f s0):=by
    intro j
    induction j with
    |zero=>intro _;simpa using h0
    |succ j ih=>
      intro hj;rw [List.take_succ_eq_append_getElem (by omega),List.foldl_append];exact hI j _ (by omega) (ih (by omega))
  have:=n4 (step:=step) (fun j=>mk ((l.take j).foldl f s0) j) l.length (y:=out (l.foldl f s0)) (fun j hj=>by
    rw [h _ j hj (hF j (by omega)),List.take_succ_eq_append_getElem hj,List.foldl_append];rfl) (by
    have:=he _ (hF l.length (Nat.le_refl _));rw [List.take_length] at this⊢;exact this)
  simpa using this
theorem Hu {α S:Type} (l:List α) (f:S→α→S) (s0:S) (mk:S→Nat→X) (out:S→Y)
    (h:∀s j (hj:j<l.length),step (mk s j)=some (.inl (mk (f s l[j]) (j+1)))) (he:∀s,step (mk s l.length)=some (.inr (out s))):bb step (mk s0 0)=some (out (l.foldl f s0)):=
  Me l f s0 mk out (fun _ _=>True) trivial (fun _ _ _ _=>trivial) (fun s j hj _=>h s j hj) (fun s _=>he s)
end
theorem cQ {α:Type} {l:List α} {j:Nat} (h:j<l.length):aC l (j:Int)=some l[j]:=aaH h
theorem fm {j n:Nat} (h:j<n):decide ((j:Int)<(n:Int))=true:=decide_eq_true (by omega)
theorem fX (n:Nat):decide ((n:Int)<(n:Int))=false:=decide_eq_false (by omega)
theorem Wz {X Y:Type} {step:X→Option (X⊕Y)} (n:Nat) (st:Nat→X) (p:Nat→Bool) (out:Nat→Y) (fin:Y)
    (h1:∀j,j<n→p j=false→step (st j)=some (.inl (st (j+1)))) (h2:∀j,j<n→p j=true→step (st j)=some (.inr (out j))) (h3:step (st n)=some (.inr fin)):
    bb step (st 0)=some (((List.range n).find? p).elim fin out):=by
  refine Wy (List.range n) st p out fin (fun j hj hp=>?_) (fun j hj hp=>?_) (by simpa using h3)
  · rw [List.length_range] at hj
    exact h1 j hj (by simpa using hp)
  · rw [List.length_range] at hj
    have:=h2 j hj (by simpa using hp);simpa using this
theorem Ei {X β:Type} {step:X→Option (X⊕(β⊕Unit))} (n:Nat) (st:Nat→X) (p:Nat→Bool) (b:β)
    (h:∀j,j<n→step (st j)=bif p j then some (.inl (st (j+1))) else some (.inr (.inl b))) (h3:step (st n)=some (.inr (.inr ()))):
    bb step (st 0)=some (bif(List.range n).all p then .inr () else .inl b):=by
  rw [Wz n st (fun j=>!p j) (fun _=>.inl b) (.inr ()) (fun j hj hp=>?_) (fun j hj hp=>?_) h3]
  · cases hf:(List.range n).find? (fun j=>!p j) with
    |none=>
      rw [List.find?_eq_none] at hf
      have:(List.range n).all p=true:=by
        rw [List.all_eq_true];intro x hx;simpa using hf x hx
      rw [this];rfl
    |some a=>
      have h1:=List.find?_some hf;have h2:=List.mem_of_find?_eq_some hf
      have:(List.range n).all p=false:=by
        rw [List.all_eq_false];exact⟨a,h2,by simpa using h1⟩
      rw [this];rfl
  · have xB:p j=true:=by simpa using hp
    rw [h j hj,xB];rfl
  · have xB:p j=false:=by simpa using hp
    rw [h j hj,xB];rfl
theorem fe {α β:Type} (x:α) (K:α→β):cU x K=K x:=rfl
theorem WA (a b:Int):decide (a<b)=!decide (b≤a):=by
  by_cases h:a<b
  · rw [decide_eq_true h,decide_eq_false (by omega)]
    rfl
  · rw [decide_eq_false h,decide_eq_true (by omega)]
    rfl
theorem amN (a b:Int):decide (a≤b)=!decide (b<a):=by
  by_cases h:a≤b
  · rw [decide_eq_true h,decide_eq_false (by omega)]
    rfl
  · rw [decide_eq_false h,decide_eq_true (by omega)]
    rfl
theorem uP {n:Int} (h:n≠0):(n !=0)=true:=by simp [h]
theorem Mf {X Y α S:Type} {step:X→Option (X⊕Y)} (l:List α) (bad:α→Bool) (f:S→α→S) (s0:S) (mk:S→Nat→X) (E:Y) (out:S→Y) (I:Nat→S→Prop) (h0:I 0 s0) (hI:∀j s (hj:j<l.length),bad l[j]=false→I j s→I (j+1) (f s l[j]))
    (h:∀s j (hj:j<l.length),I j s→bad l[j]=false→step (mk s j)=some (.inl (mk (f s l[j]) (j+1)))) (hb:∀s j (hj:j<l.length),I j s→bad l[j]=true→step (mk s j)=some (.inr E)) (he:∀s,I l.length s→step (mk s l.length)=some (.inr (out s))):
    bb step (mk s0 0)=some (bif l.any bad then E else out (l.foldl f s0)):=by
  have:∀(r:List α) (j:Nat) (s:S),l.drop j=r→j≤l.length→I j s→bb step (mk s j)=some (bif r.any bad then E else out (r.foldl f s)):=by
    intro r
    induction r with
    |nil=>
      intro j s hr hj hs;have:l.length≤j:=List.drop_eq_nil_iff.1 hr;have:j=l.length:=by omega
      subst this;exact fr (he s hs)
    |cons a r ih=>
      intro j s hr hj hs
      have bB:j<l.length:=by
        rcases Nat.lt_or_ge j l.length with h|h
        · exact h
        · rw [List.drop_eq_nil_of_le h] at hr
          exact absurd hr (by simp)
      have jS:=List.drop_eq_getElem_cons bB;rw [hr] at jS;obtain⟨ha,AO⟩:=List.cons.inj jS;rw [List.any_cons,List.foldl_cons,ha];cases kc:bad l[j] with
      |true=>exact fr (hb s j bB hs kc)
      |false=>
        rw [iU (h s j bB hs kc)];exact ih (j+1) (f s l[j]) AO.symm (by omega) (hI j s bB kc hs)
  exact this l 0 s0 (List.drop_zero ..) (by omega) h0
def uQ (b:Bx):Bool:=
  (bif(decide (b.x.b≤b.x.a)) then true else(bif(decide (b.y.b≤b.y.a)) then true else(decide (b.z.b≤b.z.a))))
theorem amO (e:Sp):(!(zT e))=(jJ e.a||jJ e.b):=by
  rw [Bool.eq_iff_iff];unfold zT jJ;simp only [Bool.cond_eq_ite,Bool.not_eq_true',Bool.or_eq_true,decide_eq_true_eq];by_cases h1:-600≤min e.a e.b
  · rw [if_pos h1,decide_eq_false_iff_not]
    by_cases h2:e.a< -600<;>by_cases h3:e.b< -600<;>simp [h2,h3]<;>omega
  · rw [if_neg h1]
    by_cases h2:e.a< -600<;>by_cases h3:e.b< -600<;>simp [h2,h3]<;>omega
theorem amP (s:b7) (v:Int):wH s v=rA s v:=by
  unfold wH rA;cases decide (v<((s.Rows.length:Nat):Int)) with
  |false=>rfl
  |true=>
    rw [cond_true,cond_true];cases aC s.Rows v with
    |none=>rfl
    |some e=>
      rw [aN,aN,aN,amO];cases jJ e.a<;>cases jJ e.b<;>rfl
theorem amQ (s:b7) (v:Int):wI s v=rB s v:=by
  unfold wI rB nS lJ;cases decide (v<((s.Rows.length:Nat):Int)) with
  |false=>rfl
  |true=>
    rw [cond_true,cond_true];cases aC s.Rows v with
    |none=>rfl
    |some e=>rfl
theorem Hv (s:b7):zU s=oR s:=by
  unfold zU oR;have h1:(fun q=>wH s q)=(fun q=>rA s q):=funext fun v=>amP s v
  have h2:(fun q=>wI s q)=(fun q=>rB s q):=funext fun v=>amQ s v
  rw [h1,h2];rfl
theorem amR (l:List aV) (n v:Int):wL l n v=sD l n v:=by
  unfold wL sD;cases decide (v<((l.length:Nat):Int)) with
  |false=>rfl
  |true=>
    rw [cond_true,cond_true];cases aC l v with
    |none=>rfl
    |some e=>
      simp only [aN];rw [Hv]
theorem xC (l:List aV):rI l=jL l:=by
  unfold rI jL;have h1:(fun q:Int×Int=>wL l q.1 q.2)=(fun q=>sD l q.1 q.2):=funext fun q=>amR l q.1 q.2
  rw [h1]
def uR (s:Sp) (low:Int) (high:Int):Bool:=
  (bif(decide (low≤s.a)) then(decide (s.b≤high)) else false)
theorem Mh (s:Sp) (low high:Int) (h:¬s.b≤s.a):sK s low high=uR s low high:=by
  unfold sK uR;rw [show min s.a s.b=s.a by omega,show max s.a s.b=s.b by omega]
def Ej (b:Bx):Bool:=
  (bif(uR b.x (-600) 600) then(bif(uR b.y (-600) 600) then(uR b.z 0 20000) else false) else false)
def AP (l:List Df) (i:Int):Option (Int⊕(Int⊕Unit)):=
  (bif(decide (i<((l.length:Nat):Int))) then(β ((β (aC l i) (fun e=>(bif(decide (e.k<1)) then some true else(β (aC l i) (fun e1=>some (decide (6<e1.k))))))):Option Bool) (fun vv=>(bif vv then some (ι (κ 10)) else(β (aC l i) (fun e2=>(bif(uQ e2.b) then some (ι (κ 19)) else(β (aC l i) (fun e3=>(bif(!(Ej e3.b)) then some (ι (κ 9)) else some (κ (U (i+1)))))))))))) else some (ι (ι ())))
theorem amS (l:List Df) (v:Int):qx l v=AP l v:=by
  unfold qx AP;cases decide (v<((l.length:Nat):Int)) with
  |false=>rfl
  |true=>
    rw [cond_true,cond_true];cases aC l v with
    |none=>rfl
    |some e=>
      simp only [aN];unfold t_ uQ Ej;simp only [fe,oV];by_cases q8:e.k<1
      · rw [decide_eq_true q8]
        rfl
      · rw [decide_eq_false q8]
        by_cases hU:6<e.k
        · rw [decide_eq_true hU]
          rfl
        · rw [decide_eq_false hU]
          by_cases hx:e.b.x.b≤e.b.x.a
          · rw [decide_eq_true hx]
            rfl
          · rw [decide_eq_false hx]
            by_cases hy:e.b.y.b≤e.b.y.a
            · rw [decide_eq_true hy]
              rfl
            · rw [decide_eq_false hy]
              by_cases hz:e.b.z.b≤e.b.z.a
              · rw [decide_eq_true hz]
                rfl
              · rw [decide_eq_false hz,Mh _ _ _ hx,Mh _ _ _ hy,Mh _ _ _ hz]
                cases uR e.b.x (-600) 600<;>cases uR e.b.y (-600) 600<;>cases uR e.b.z 0 20000<;>rfl
def AQ (l:List Df):Option Int:=
  (bif(decide (64<((l.length:Nat):Int))) then some 4 else(β ((bb (fun q=>AP l q) 0):Option (Int⊕Unit)) (Sum.elim (fun q=>some q) (fun _=>some 0))))
theorem amT (l:List Df):j_ l=AQ l:=by
  unfold j_ AQ;have h1:(fun q=>qx l q)=(fun q=>AP l q):=funext fun v=>amS l v
  rw [h1]
def WB (p:bh):Bool:=
 (bif(decide (1≤p.fh)) then(bif(decide (p.fh≤600)) then(bif(decide (1≤p.gg)) then(decide (p.gg≤600)) else false) else false) else false)
def jg (p:bh):(Int×Int):=
 (bif(!(WB p)) then(0,0) else(bif(decide (p.fK<0)) then(0,0) else(bif(decide (200<p.fK)) then(0,0) else((U (Int.tdiv (U ((U (p.fh*(U (1000+p.fK))))+999)) 1000)),U (Int.tdiv (U ((U (p.gg*(U (1000+p.fK))))+999)) 1000)))))
theorem Mi (p:bh):nT p=jg p:=by
  unfold nT jg wO WB ur;cases decide (1≤p.fh)<;>cases decide (p.fh≤600)<;>cases decide (1≤p.gg)<;>cases decide (p.gg≤600)<;>rfl
def AR (p:bh) (i:Int):Option (Int⊕(Int⊕Unit)):=
 (bif(decide (i<((p.bG.length:Nat):Int))) then(β (aC p.bG i) (fun e=>(bif(decide (e<100)) then some (ι (κ 9)) else(β (aC p.bG i) (fun e1=>(bif(decide (20000<e1)) then some (ι (κ 9)) else(bif(decide (0<i)) then(β (aC p.bG i) (fun e2=>(β (aC p.bG (U (i -1))) (fun e3=>(bif(decide (e2≤e3)) then some (ι (κ 11)) else some (κ (U (i+1)))))))) else some (κ (U (i+1)))))))))) else some (ι (ι ())))
theorem amU (p:bh) (v:Int):wP p v=AR p v:=by
  unfold wP AR;cases aC p.bG v with
  |none=>rfl
  |some e=>rfl
def xD (p:bh) (i1:Int):Option (Int⊕(Int⊕Unit)):=
 (bif(decide (i1<((p.dB.length:Nat):Int))) then(β (aC p.dB i1) (fun e4=>(bif(decide (e4<0)) then some (ι (κ 9)) else(β (aC p.dB i1) (fun e5=>(bif(decide (1000000<e5)) then some (ι (κ 9)) else some (κ (U (i1+1))))))))) else some (ι (ι ())))
theorem amV (p:bh) (v:Int):wQ p v=xD p v:=by
  unfold wQ xD;cases aC p.dB v with
  |none=>rfl
  |some e=>rfl
theorem AS (l:List aV):nU l=rF l:=by
  unfold nU rF rJ;rw [xC];cases jL l with
  |none=>rfl
  |some c=>
    simp only [aN];cases h:(c !=0) with
    |true=>
      rw [cond_true,cond_true,aN,fr (y:=(0:Int)) rfl,aN]
    |false=>rfl
structure mu (s:b7):Prop where
  len:s.Rows.length≤120
  low:-60≤s.b6∧s.b6+s.Rows.length≤60
  ta:∀e∈s.Rows,-600≤e.a∧e.a≤600∧-600≤e.b∧e.b≤600
theorem WC {n:Int} (h:jJ n=false):-600≤n∧n≤600:=by
  unfold jJ at h;by_cases h1:n< -600
  · rw [decide_eq_true h1] at h
    exact absurd h (by simp)
  · rw [decide_eq_false h1,cond_false,decide_eq_false_iff_not] at h
    omega
theorem WD (s:b7) (hl:ct s.b6):∃c,oR s=some c∧(c=0→mu s):=by
  unfold ct at hl;unfold oR;by_cases h1:120<s.Rows.length
  · rw [decide_eq_true (by omega)]
    exact⟨4,rfl,fun h=>by omega⟩
  · rw [decide_eq_false (by omega),cond_false]
    by_cases h2:s.b6< -60
    · rw [decide_eq_true h2]
      exact⟨9,rfl,fun h=>by omega⟩
    · rw [decide_eq_false h2,cond_false,bu (by omega) (by omega)]
      by_cases h3:60 -((s.Rows.length:Nat):Int)<s.b6
      · rw [decide_eq_true h3]
        exact⟨9,rfl,fun h=>by omega⟩
      · rw [decide_eq_false h3,cond_false]
        have pS:=Ei (step:=fun q:Int=>rA s q) s.Rows.length (fun j=>(j:Int)) (fun j=>(s.Rows[j]?).elim true fun e=>!(jJ e.a||jJ e.b)) (9:Int) (fun j hj=>by
          unfold rA;rw [fm hj,cond_true,cQ hj,aN,aN,bK (by omega),List.getElem?_eq_getElem hj];show _=bif !(jJ s.Rows[j].a||jJ s.Rows[j].b) then _ else _
          cases jJ s.Rows[j].a<;>cases jJ s.Rows[j].b<;>rfl) (by
          unfold rA;rw [fX];rfl)
        have e0:((0:Nat):Int)=0:=rfl;rw [e0] at pS;rw [pS,aN];cases lh:(List.range s.Rows.length).all (fun j=>(s.Rows[j]?).elim true fun e=>!(jJ e.a||jJ e.b)) with
        |false=>exact⟨9,rfl,fun h=>by omega⟩
        |true=>
          have ec:mu s:=by
            refine⟨by omega,by omega,fun e he=>?_⟩;obtain⟨j,hj,rfl⟩:=List.getElem_of_mem he;rw [List.all_eq_true] at lh;have:=lh j (List.mem_range.2 hj);rw [List.getElem?_eq_getElem hj] at this;have h4:(!(jJ s.Rows[j].a||jJ s.Rows[j].b))=true:=this;rw [Bool.not_eq_true',Bool.or_eq_false_iff] at h4;have h5:=WC h4.1;have h6:=WC h4.2;omega
          rw [cond_true,Sum.elim_inr];by_cases h0:s.Rows.length=0
          · rw [show((((s.Rows.length:Nat):Int))==0)=true by simp [h0],cond_true]
            cases(s.b6 !=0) with
            |true=>exact⟨19,rfl,fun h=>by omega⟩
            |false=>exact⟨0,rfl,fun _=>ec⟩
          · rw [show((((s.Rows.length:Nat):Int))==0)=false by simp;intro h;simp [h] at h0,cond_false]
            have g0:=cQ (l:=s.Rows) (j:=0) (by omega);rw [e0] at g0;have g1:=cQ (l:=s.Rows) (j:=s.Rows.length -1) (by omega);rw [show((s.Rows.length -1:Nat):Int)=((s.Rows.length:Nat):Int) -1 by omega] at g1
            rw [g0,aN,bu (by omega) (by omega),g1,aN];cases lJ s.Rows[0] with
            |true=>exact⟨19,rfl,fun h=>by omega⟩
            |false=>
              rw [cond_false];cases lJ s.Rows[s.Rows.length -1] with
              |true=>exact⟨19,rfl,fun h=>by omega⟩
              |false=>
                rw [cond_false]
                have WE:=Ei (step:=fun q:Int=>rB s q) s.Rows.length (fun j=>(j:Int)) (fun j=>(s.Rows[j]?).elim true fun e=>!(lJ e&&!(gx bC e (⟨0,0⟩:Sp)))) (19:Int) (fun j hj=>by
                  unfold rB;rw [fm hj,cond_true,cQ hj,aN,aN,bK (by omega),List.getElem?_eq_getElem hj];show _=bif !(lJ s.Rows[j]&&!(gx bC s.Rows[j] (⟨0,0⟩:Sp))) then _ else _
                  cases lJ s.Rows[j]<;>cases gx bC s.Rows[j] (⟨0,0⟩:Sp)<;>rfl) (by
                  unfold rB;rw [fX];rfl)
                rw [e0] at WE;rw [WE,aN];cases(List.range s.Rows.length).all (fun j=>(s.Rows[j]?).elim true fun e=>!(lJ e&&!(gx bC e (⟨0,0⟩:Sp)))) with
                |false=>exact⟨19,rfl,fun h=>by omega⟩
                |true=>exact⟨0,rfl,fun _=>ec⟩
def bA (l:List aV):Int:=(l.map fun e=>e.aT).sum
theorem tc {l:List aV} {j:Nat} (hj:j<l.length):bA (l.take (j+1))=bA (l.take j)+l[j].aT:=by
  unfold bA;rw [List.take_succ_eq_append_getElem hj,List.map_append,List.sum_append];simp
structure lX (l:List aV):Prop where
  len:l.length≤24
  sec:∀e∈l,mu e.cn∧1≤e.aT∧oR e.cn=some 0
  xE:bA l≤20000
theorem Ek (l:List aV) (hl:∀e∈l,ct e.cn.b6∧ct e.aT):∃c,jL l=some c∧(c=0→lX l):=by
  unfold jL;by_cases h0:l.length=0
  · rw [show((((l.length:Nat):Int))==0)=true by simp [h0]]
    exact⟨3,rfl,fun h=>by omega⟩
  · rw [show((((l.length:Nat):Int))==0)=false by simp;intro h;simp [h] at h0,cond_false]
    by_cases h1:24<l.length
    · rw [decide_eq_true (by omega)]
      exact⟨4,rfl,fun h=>by omega⟩
    · rw [decide_eq_false (by omega),cond_false]
      obtain⟨y,hy,hG⟩:=p_ (step:=fun q:Int×Int=>sD l q.1 q.2) (fun q=>∃j:Nat,j≤l.length∧q=(bA (l.take j),(j:Int))∧0≤bA (l.take j)∧bA (l.take j)≤20000∧∀e∈l.take j,mu e.cn∧1≤e.aT∧oR e.cn=some 0) (fun q=>l.length -q.2.toNat) (fun y=>(∃c,y=.inl c∧c≠0)∨(y=.inr ()∧lX l)) (by
        rintro q ⟨j,hj,rfl,jl,hs,ha⟩;unfold sD;dsimp only;rcases Nat.lt_or_ge j l.length with bB|tw
        · have hI:=hl _ (List.getElem_mem bB)
          have El:=hI.2;unfold ct at El;obtain⟨c,hc,eu⟩:=WD l[j].cn hI.1;rw [fm bB,cond_true,cQ bB];simp only [aN];rw [hc,aN];by_cases h2:c=0
          · subst h2
            rw [show((0:Int)!=0)=false from rfl,cond_false]
            cases((l[j].cn.Rows.length:Int)==0) with
            |true=>exact .inr ⟨_,rfl,.inl ⟨_,rfl,by omega⟩⟩
            |false=>
              rw [cond_false];by_cases h3:l[j].aT<1
              · rw [decide_eq_true h3]
                exact .inr ⟨_,rfl,.inl ⟨_,rfl,by omega⟩⟩
              · rw [decide_eq_false h3,cond_false,bu (n:=20000 -_) (by omega) (by omega)]
                by_cases h4:20000 -bA (l.take j)<l[j].aT
                · rw [decide_eq_true h4]
                  exact .inr ⟨_,rfl,.inl ⟨_,rfl,by omega⟩⟩
                · rw [decide_eq_false h4,cond_false,bu (n:=bA _+_) (by omega) (by omega),bK (by omega)]
                  refine .inl ⟨_,rfl,⟨j+1,by omega,by rw [tc bB],by rw [tc bB];omega,by rw [tc bB];omega,?_⟩,?_⟩
                  · intro e he
                    rw [List.take_succ_eq_append_getElem bB] at he;rcases List.mem_append.1 he with he|he
                    · exact ha e he
                    · rw [List.mem_singleton] at he
                      subst he;exact⟨eu rfl,by omega,hc⟩
                  · show l.length -(((j+1:Nat):Int)).toNat<l.length -((j:Int)).toNat
                    omega
          · rw [show((c:Int)!=0)=true by simp [h2],cond_true]
            exact .inr ⟨_,rfl,.inl ⟨_,rfl,h2⟩⟩
        · have:j=l.length:=by omega
          subst this;rw [fX,cond_false];rw [List.take_length] at hs ha;exact .inr ⟨_,rfl,.inr ⟨rfl,⟨by omega,ha,hs⟩⟩⟩) (0,0) ⟨0,by omega,rfl,by simp [bA],by simp [bA],by simp⟩
      rw [hy,aN];rcases hG with⟨c,rfl,hc⟩|⟨rfl,ec⟩
      · exact⟨c,rfl,fun h=>absurd h hc⟩
      · exact⟨0,rfl,fun _=>ec⟩
def cm (a b:Sp):Int:=max 0 (min a.b b.b -max a.a b.a)
theorem n5 (a b:Sp):0≤cm a b:=by unfold cm;omega
theorem WG {a b:Sp} (h:b.a≤b.b):cm a b≤b.b -b.a:=by unfold cm;omega
theorem xF {a b:Sp} {m:Int} (h0:0≤m) (h:a.b -a.a≤m):cm a b≤m:=by unfold cm;omega
def Hw (a:Sp) (b:Sp):Int:=
  (bif(lJ b) then 0 else(bif(decide ((min a.b b.b)≤(max a.a b.a))) then 0 else(U ((min a.b b.b) -(max a.a b.a)))))
theorem WH {a b:Sp} (h:-1000000≤a.a∧a.a≤1000000∧-1000000≤a.b∧a.b≤1000000):Hw a b=cm a b:=by
  unfold Hw lJ cm;by_cases h1:b.b≤b.a
  · rw [decide_eq_true h1,cond_true]
    omega
  · rw [decide_eq_false h1,cond_false]
    by_cases h2:min a.b b.b≤max a.a b.a
    · rw [decide_eq_true h2,cond_true]
      omega
    · rw [decide_eq_false h2,cond_false,bu (by omega) (by omega)]
      omega
theorem AT (n:Int):tR n=n%18446744073709551616:=by
  unfold tR;rw [ahv]
theorem Mj {a b:Sp} (h:-1000000≤a.a∧a.a≤1000000∧-1000000≤a.b∧a.b≤1000000):i_ (pK a b)=cm a b:=by
  unfold pK cm;by_cases h2:min a.b b.b≤max a.a b.a
  · rw [decide_eq_true h2,cond_true,show i_ (⟨0,0⟩:Sp)=0 from rfl]
    omega
  · rw [decide_eq_false h2,cond_false]
    unfold i_ Dt Ao;dsimp only;rw [decide_eq_false (by omega),cond_false,AT,AT,AT,bu (by omega) (by omega)];omega
def fu (n:Int):Sp:=⟨10*n,10*(n+1)⟩
def dD (X Y:Sp):List Sp→Int→Int
  |[],_=>0
  |e::es,low=>cm e X*cm (fu low) Y+dD X Y es (low+1)
theorem Mk (X Y:Sp):∀(es:List Sp) (e:Sp) (low:Int),dD X Y (es++[e]) low=dD X Y es low+cm e X*cm (fu (low+es.length)) Y
  |[],e,low=>by simp [dD]
  |f::es,e,low=>by
    show cm f X*cm (fu low) Y+dD X Y (es++[e]) (low+1)=cm f X*cm (fu low) Y+dD X Y es (low+1)+_
    rw [Mk X Y es e (low+1),List.length_cons,show low+1+((es.length:Nat):Int)=low+((es.length+1:Nat):Int) by omega]
    omega
theorem uS (X Y:Sp):∀(es:List Sp) (low:Int),0≤dD X Y es low
  |[],low=>by simp [dD]
  |f::es,low=>by
    have h1:=Int.mul_nonneg (n5 f X) (n5 (fu low) Y);have h2:=uS X Y es (low+1);show 0≤cm f X*cm (fu low) Y+dD X Y es (low+1)
    omega
theorem Em (X Y:Sp):∀(es:List Sp) (low:Int),(∀e∈es,-600≤e.a∧e.a≤600∧-600≤e.b∧e.b≤600)→dD X Y es low≤12000*es.length
  |[],low,_=>by simp [dD]
  |f::es,low,h=>by
    have hf:=h f (List.mem_cons_self ..);have h1:cm f X≤1200:=xF (by omega) (by omega);have h3:cm (fu low) Y≤10:=xF (by omega) (by show 10*(low+1) -10*low≤10;omega)
    have h4:=Int.mul_le_mul h1 h3 (n5 _ _) (by omega);have h2:=Em X Y es (low+1) fun e he=>h e (List.mem_cons_of_mem _ he)
    show cm f X*cm (fu low) Y+dD X Y es (low+1)≤_
    rw [List.length_cons];omega
theorem WI {X Y:Sp} (hX:X.a≤X.b):∀(es:List Sp) (low:Int),dD X Y es low≤(X.b -X.a)*cm ⟨10*low,10*(low+es.length)⟩ Y
  |[],low=>Int.mul_nonneg (by omega) (n5 _ _)
  |f::es,low=>by
    have h2:=WI hX es (low+1) (Y:=Y);have h1:cm f X*cm (fu low) Y≤(X.b -X.a)*cm (fu low) Y:=Int.mul_le_mul_of_nonneg_right (WG hX) (n5 _ _)
    have h3:cm ⟨10*low,10*(low+((es.length+1:Nat):Int))⟩ Y=cm (fu low) Y+cm ⟨10*(low+1),10*(low+1+es.length)⟩ Y:=by
      unfold cm fu;dsimp only;omega
    show cm f X*cm (fu low) Y+dD X Y es (low+1)≤_
    rw [List.length_cons,h3,Int.mul_add];omega
def Ml (vr:Int):Sp:=
  (⟨U (10*vr),U (10*(U (vr+1)))⟩:Sp)
def Hx (vr:aJ) (vv:b7) (n1:Int) (i:Int):Option ((Int×Int)⊕Int):=
  (bif(decide (i<((vv.Rows.length:Nat):Int))) then(β (aC vv.Rows i) (fun e=>(cU (Ml (U (vv.b6+i))) (fun hv=>some (κ ((U (n1+(U ((Hw e vr.X)*(Hw hv vr.Y))))),U (i+1))))))) else some (ι n1))
def Mm (s:b7) (vr:aJ):Option Int:=
  (β (Co s) (fun vv=>(β ((bb (fun q=>Hx vr vv q.1 q.2) (0,0)):Option Int) (fun n=>some n))))
theorem amW {s:b7} (h:mu s) (hc:oR s=some 0) (vr:aJ):Mm s vr=some (dD vr.X vr.Y s.Rows s.b6):=by
  have hl:=h.len;have hw:=h.low;unfold Mm Co;rw [hc,aN,show((0:Int)!=0)=false from rfl,cond_false,aN]
  have:=n4 (step:=fun q:Int×Int=>Hx vr s q.1 q.2) (fun j=>(dD vr.X vr.Y (s.Rows.take j) s.b6,(j:Int))) s.Rows.length (y:=dD vr.X vr.Y s.Rows s.b6) (fun j hj=>?_) (by
    unfold Hx;dsimp only;rw [fX,List.take_length];rfl)
  · rw [show(dD vr.X vr.Y (s.Rows.take 0) s.b6,((0:Nat):Int))=((0:Int),(0:Int)) from rfl] at this
    rw [this];rfl
  · have hr:=h.ta _ (List.getElem_mem hj)
    have hp:=Em vr.X vr.Y (s.Rows.take j) s.b6 fun e he=>h.ta e (List.mem_of_mem_take he)
    have hq:=uS vr.X vr.Y (s.Rows.take j) s.b6;rw [List.length_take] at hp;unfold Hx;dsimp only;rw [fm hj,cond_true,cQ hj,aN,fe,bu (n:=s.b6+_) (by omega) (by omega)]
    have eh:Ml (s.b6+j)=fu (s.b6+j):=by
      unfold Ml fu;rw [bu (n:=s.b6+j+1) (by omega) (by omega),bu (by omega) (by omega),bu (by omega) (by omega)]
    rw [eh,WH (by omega),WH (by unfold fu;dsimp only;omega)];have h1:cm s.Rows[j] vr.X≤1200:=xF (by omega) (by omega);have h3:cm (fu (s.b6+j)) vr.Y≤10:=xF (by omega) (by unfold fu;dsimp only;omega);have h4:=Int.mul_le_mul h1 h3 (n5 _ _) (by omega);have h5:=Int.mul_nonneg (n5 s.Rows[j] vr.X) (n5 (fu (s.b6+j)) vr.Y);rw [bu (n:=cm _ _*_) (by omega) (by omega),bu (n:=dD _ _ _ _+_) (by omega) (by omega),bK (by omega),List.take_succ_eq_append_getElem hj,Mk,List.length_take,show min j s.Rows.length=j by omega]
theorem WJ {s:b7} (h:mu s) (hc:oR s=some 0) (vr:aJ):Aq s vr=some (dD vr.X vr.Y s.Rows s.b6):=by
  have hl:=h.len;have hw:=h.low;unfold Aq qG;rw [Hv,hc,aN,show((0:Int)!=0)=false from rfl,cond_false,aN]
  have:=n4 (step:=fun q:Int×Int=>wY vr s q.1 q.2) (fun j=>(dD vr.X vr.Y (s.Rows.take j) s.b6,(j:Int))) s.Rows.length (y:=dD vr.X vr.Y s.Rows s.b6) (fun j hj=>?_) (by
    unfold wY;dsimp only;rw [fX,List.take_length];rfl)
  · rw [show(dD vr.X vr.Y (s.Rows.take 0) s.b6,((0:Nat):Int))=((0:Int),(0:Int)) from rfl] at this
    rw [this];rfl
  · have hr:=h.ta _ (List.getElem_mem hj)
    have hp:=Em vr.X vr.Y (s.Rows.take j) s.b6 fun e he=>h.ta e (List.mem_of_mem_take he)
    have hq:=uS vr.X vr.Y (s.Rows.take j) s.b6;rw [List.length_take] at hp;unfold wY;dsimp only;rw [fm hj,cond_true,cQ hj,aN,fe,fe,fe,bu (n:=s.b6+_) (by omega) (by omega)]
    have eh:wE (s.b6+j) (U (s.b6+j+1))=fu (s.b6+j):=by
      unfold wE fu;rw [bu (n:=s.b6+j+1) (by omega) (by omega),bu (by omega) (by omega),bu (by omega) (by omega)]
    rw [eh,Mj (by omega),Mj (by unfold fu;dsimp only;omega)];have h1:cm s.Rows[j] vr.X≤1200:=xF (by omega) (by omega);have h3:cm (fu (s.b6+j)) vr.Y≤10:=xF (by omega) (by unfold fu;dsimp only;omega);have h4:=Int.mul_le_mul h1 h3 (n5 _ _) (by omega);have h5:=Int.mul_nonneg (n5 s.Rows[j] vr.X) (n5 (fu (s.b6+j)) vr.Y);rw [bu (n:=cm _ _*_) (by omega) (by omega),bu (n:=dD _ _ _ _+_) (by omega) (by omega),bK (by omega),List.take_succ_eq_append_getElem hj,Mk,List.length_take,show min j s.Rows.length=j by omega]
def fp (s:Sp):Bool:=
  (bif(decide ((-600)≤s.a)) then(bif(decide (s.a<s.b)) then(decide (s.b≤600)) else false) else false)
theorem amX (vr:aJ):Ds vr=some (fp vr.X&&fp vr.Y):=by
  unfold Ds
  have hs:∀(e:Sp) (x:Option (Int⊕(Bool⊕Unit))),(bif(decide (e.a<(-600))) then some (ι (κ false)) else(bif(decide (600<e.b)) then some (ι (κ false)) else(bif(decide (e.b≤e.a)) then some (ι (κ false)) else x)))=bif fp e then x else some (ι (κ false)):=by
    intro e x;unfold fp;rw [WA e.a (-600),WA 600 e.b,amN e.b e.a];cases decide (-600≤e.a)<;>cases decide (e.b≤600)<;>cases decide (e.a<e.b)<;>rfl
  have h0:Am vr 0=bif fp vr.X then some (.inl 1) else some (.inr (.inl false)):=hs vr.X _
  have h1:Am vr 1=bif fp vr.Y then some (.inl 2) else some (.inr (.inl false)):=hs vr.Y _
  cases hX:fp vr.X with
  |false=>
    rw [hX] at h0;rw [fr h0];rfl
  |true=>
    rw [hX] at h0;rw [iU h0];cases hY:fp vr.Y with
    |false=>
      rw [hY] at h1;rw [fr h1];rfl
    |true=>
      rw [hY] at h1;rw [iU h1,fr (y:=.inr ()) rfl];rfl
theorem AU {s:Sp} (h:fp s=true):-600≤s.a∧s.a<s.b∧s.b≤600:=by
  unfold fp at h;by_cases h1:-600≤s.a
  · rw [decide_eq_true h1,cond_true] at h
    by_cases h2:s.a<s.b
    · rw [decide_eq_true h2,cond_true,decide_eq_true_eq] at h
      exact⟨h1,h2,h⟩
    · rw [decide_eq_false h2] at h
      exact absurd h (by simp)
  · rw [decide_eq_false h1] at h
    exact absurd h (by simp)
theorem amY {l:List aV} (h:lX l):bb (fun q:Int×Int=>tY l q.1 q.2) (0,0)=some (bA l):=by
  have hl:=h.len
  have hb:∀j,j≤l.length→0≤bA (l.take j)∧bA (l.take j)≤bA l:=by
    have vX:∀(m:List aV),(∀e∈m,e∈l)→0≤bA m:=by
      intro m
      induction m with
      |nil=>intro _;simp [bA]
      |cons a m ih=>
        intro hm;have h1:=(h.sec a (hm a (List.mem_cons_self ..))).2.1;have h2:=ih fun e he=>hm e (List.mem_cons_of_mem _ he)
        unfold bA at h2⊢;rw [List.map_cons,List.sum_cons];omega
    intro j hj;have h1:=vX (l.take j) fun e he=>List.mem_of_mem_take he
    have h2:=vX (l.drop j) fun e he=>List.mem_of_mem_drop he
    have h3:bA l=bA (l.take j)+bA (l.drop j):=by
      unfold bA;rw [←List.sum_append,←List.map_append,List.take_append_drop]
    omega
  have Hy:=h.xE
  have:=n4 (step:=fun q:Int×Int=>tY l q.1 q.2) (fun j=>(bA (l.take j),(j:Int))) l.length (y:=bA l) (fun j hj=>by
    have h1:=hb j (by omega);have h2:=hb (j+1) (by omega);have h3:=tc hj;unfold tY;dsimp only;rw [fm hj,cond_true,cQ hj,aN,bu (by omega) (by omega),bK (by omega),h3]) (by
    unfold tY;dsimp only;rw [fX,List.take_length];rfl)
  exact this
theorem length_eq {l:List aV} (h:lX l) (hc:jL l=some 0):rF l=some (bA l):=by
  unfold rF;rw [hc,aN,show((0:Int)!=0)=false from rfl,cond_false,amY h]
  rfl
def lA (X Y:Sp):Int:=(X.b -X.a)*(Y.b -Y.a)
def lk (X Y:Sp) (s:b7):Int:=Int.tdiv (1000*(lA X Y -dD X Y s.Rows s.b6)+lA X Y -1) (lA X Y)
structure uT (X Y:Sp):Prop where
  x:-600≤X.a∧X.a<X.b∧X.b≤600
  y:-600≤Y.a∧Y.a<Y.b∧Y.b≤600
theorem Hz {X Y:Sp} (h:uT X Y):1≤lA X Y∧lA X Y≤1440000:=by
  have hx:=h.x;have hy:=h.y;unfold lA;have h1:=Int.mul_le_mul (a:=X.b -X.a) (c:=1200) (b:=Y.b -Y.a) (d:=1200) (by omega) (by omega) (by omega) (by omega);have h2:=Int.mul_le_mul (a:=1) (c:=X.b -X.a) (b:=1) (d:=Y.b -Y.a) (by omega) (by omega) (by omega) (by omega);omega
theorem WK {X Y:Sp} (h:uT X Y) (s:b7):0≤dD X Y s.Rows s.b6∧dD X Y s.Rows s.b6≤lA X Y:=by
  have hx:=h.x;have hy:=h.y;have h1:=WI (X:=X) (Y:=Y) (by omega) s.Rows s.b6;have h2:cm ⟨10*s.b6,10*(s.b6+s.Rows.length)⟩ Y≤Y.b -Y.a:=WG (by omega);have h3:=Int.mul_le_mul_of_nonneg_left h2 (show 0≤X.b -X.a by omega)
  refine⟨uS ..,?_⟩;unfold lA;omega
theorem amZ {X Y:Sp} (h:uT X Y) (s:b7):0≤lk X Y s∧lk X Y s≤1000:=by
  have h1:=Hz h;have h2:=WK h s;unfold lk;generalize lA X Y=A at*
  generalize dD X Y s.Rows s.b6=w at*
  rw [Int.tdiv_eq_ediv_of_nonneg (by omega)];constructor
  · exact Int.ediv_nonneg (by omega) (by omega)
  · have:(1000*(A -w)+A -1)/A<1001:=Int.ediv_lt_of_lt_mul (by omega) (by omega)
    omega
theorem WL {X Y:Sp} (h:uT X Y) (s:b7):U (Int.tdiv (U ((U ((U (1000*(U ((U ((U (X.b -X.a))*(U (Y.b -Y.a)))) -(dD X Y s.Rows s.b6)))))+(U ((U (X.b -X.a))*(U (Y.b -Y.a)))))) -1)) (U ((U (X.b -X.a))*(U (Y.b -Y.a)))))=lk X Y s:=by
  have hx:=h.x;have hy:=h.y;have h1:=Hz h;have h2:=WK h s;have h3:=amZ h s;rw [bu (n:=X.b -X.a) (by omega) (by omega),bu (n:=Y.b -Y.a) (by omega) (by omega)];rw [show(X.b -X.a)*(Y.b -Y.a)=lA X Y from rfl]
  rw [bu (n:=lA X Y) (by omega) (by omega),bu (n:=lA X Y -_) (by omega) (by omega),bu (n:=1000*_) (by omega) (by omega),bu (n:=_+lA X Y) (by omega) (by omega),bu (n:=_ -1) (by omega) (by omega)];exact bu (by unfold lk at h3;omega) (by unfold lk at h3;omega)
def wn (X Y z:Sp):List aV→Int→Int→Int
  |[],_,m=>m
  |e::es,a,m=>wn X Y z es (a+e.aT) (if a<z.b∧z.a<a+e.aT then max m (lk X Y e.cn) else m)
def mw (X Y:Sp):List aV→Int→List jn
  |[],_=>[]
  |e::es,a=>⟨⟨a,a+e.aT⟩,lk X Y e.cn⟩::mw X Y es (a+e.aT)
theorem AW (e:aV) (l:List aV):bA (e::l)=e.aT+bA l:=by simp [bA]
theorem WM (X Y:Sp):∀(l:List aV) (e:aV) (a:Int),mw X Y (l++[e]) a=mw X Y l a++[⟨⟨a+bA l,a+bA l+e.aT⟩,lk X Y e.cn⟩]
  |[],e,a=>by simp [mw,bA]
  |f::l,e,a=>by
    show _::mw X Y (l++[e]) (a+f.aT)=_::_
    rw [WM X Y l e (a+f.aT),AW,show a+f.aT+bA l=a+(f.aT+bA l) by omega]
    rfl
theorem HA (X Y:Sp):∀(l:List aV) (a:Int),(mw X Y l a).length=l.length
  |[],a=>rfl
  |f::l,a=>by
    show(mw X Y l (a+f.aT)).length+1=l.length+1
    rw [HA X Y l]
def wz (z:Sp) (m:Int) (e:jn):Int:=if e.z_.a<z.b∧z.a<e.z_.b then max m e.B1 else m
theorem WN (X Y z:Sp):∀(l:List aV) (a m:Int),(mw X Y l a).foldl (wz z) m=wn X Y z l a m
  |[],a,m=>rfl
  |f::l,a,m=>WN X Y z l (a+f.aT) _
theorem qR {l:List aV} (h:lX l):∀j,j≤l.length→0≤bA (l.take j)∧bA (l.take j)≤bA l:=by
  have vX:∀(m:List aV),(∀e∈m,e∈l)→0≤bA m:=by
    intro m
    induction m with
    |nil=>intro _;simp [bA]
    |cons a m ih=>
      intro hm;have h1:=(h.sec a (hm a (List.mem_cons_self ..))).2.1;have h2:=ih fun e he=>hm e (List.mem_cons_of_mem _ he)
      rw [AW];omega
  intro j hj;have h1:=vX (l.take j) fun e he=>List.mem_of_mem_take he
  have h2:=vX (l.drop j) fun e he=>List.mem_of_mem_drop he
  have h3:bA l=bA (l.take j)+bA (l.drop j):=by
    unfold bA;rw [←List.sum_append,←List.map_append,List.take_append_drop]
  omega
theorem am0 {l:List aV} (h:lX l) {vr:aJ} (hr:uT vr.X vr.Y):Du l vr=some (mw vr.X vr.Y l 0):=by
  have hl:=h.len;have Hy:=h.xE;have hx:=hr.x;have hy:=hr.y;have ha:=Hz hr;unfold Du
  have:=n4 (step:=fun q:List jn×Int×Int=>wZ l vr q.1 q.2.1 q.2.2) (fun j=>(mw vr.X vr.Y (l.take j) 0,bA (l.take j),(j:Int))) l.length (y:=mw vr.X vr.Y l 0) (fun j hj=>by
    have h1:=qR h j (by omega);have h2:=qR h (j+1) (by omega);have h3:=tc hj;have hs:=h.sec _ (List.getElem_mem hj);unfold wZ;dsimp only;rw [fm hj,cond_true,cQ hj,aN,WJ hs.1 hs.2.2,aN,WL hr];rw [bu (n:=vr.X.b -vr.X.a) (by omega) (by omega),bu (n:=vr.Y.b -vr.Y.a) (by omega) (by omega),show(vr.X.b -vr.X.a)*(vr.Y.b -vr.Y.a)=lA vr.X vr.Y from rfl,bu (n:=lA _ _) (by omega) (by omega),uP (by omega),cond_true]
    rw [jT (by rw [HA,List.length_take];simp;omega) (by rw [HA,List.length_take];simp;omega),aN,bu (by omega) (by omega),bK (by omega),h3,List.take_succ_eq_append_getElem hj,WM,Int.zero_add]) (by
    unfold wZ;dsimp only;rw [fX,List.take_length];rfl)
  rw [show(mw vr.X vr.Y (l.take 0) 0,bA (l.take 0),((0:Nat):Int))=(([]:List jn),(0:Int),(0:Int)) from rfl] at this
  rw [this];rfl
theorem am1 {l:List jn} (hl:l.length≤1000) (z:Sp):Dy l z=some (l.foldl (wz z) 0):=by
  unfold Dy
  have:=Hu (step:=fun q:Int×Int=>xa l z q.1 q.2) l (wz z) 0 (fun m j=>(m,(j:Int))) (fun m=>m) (fun m j hj=>by
    unfold xa wz;dsimp only;rw [fm hj,cond_true,cQ hj,aN,bK (by omega)];by_cases h1:l[j].z_.a<z.b
    · rw [decide_eq_true h1,cond_true]
      by_cases h2:z.a<l[j].z_.b
      · rw [decide_eq_true h2,cond_true,if_pos ⟨h1,h2⟩]
      · rw [decide_eq_false h2,cond_false,if_neg (by omega)]
    · rw [decide_eq_false h1,cond_false,if_neg (by omega)]) (fun m=>by
    unfold xa;dsimp only;rw [fX];rfl)
  rw [show(((0:Int)),((0:Nat):Int))=((0:Int),(0:Int)) from rfl] at this
  rw [this];rfl
def En (vz:Sp) (bZ:Int) (length:Int):Int:=
  (bif(decide ((min vz.b (U (bZ+length)))≤(max vz.a bZ))) then 0 else(U ((min vz.b (U (bZ+length))) -(max vz.a bZ))))
def prt (z:Sp) (a n:Int):Int:=En ⟨max z.a 0,min z.b 20000⟩ a n
def jE (z:Sp):List aV→Int→List aV
  |[],_=>[]
  |e::es,a=>(if a<z.b∧z.a<a+e.aT then [⟨prt z a e.aT,e.cn⟩] else [])++jE z es (a+e.aT)
theorem WO (z:Sp):∀(l:List aV) (e:aV) (a:Int),jE z (l++[e]) a=jE z l a++(if a+bA l<z.b∧z.a<a+bA l+e.aT then [⟨prt z (a+bA l) e.aT,e.cn⟩] else [])
  |[],e,a=>by simp [jE,bA]
  |f::l,e,a=>by
    show _++jE z (l++[e]) (a+f.aT)=_++jE z l (a+f.aT)++_
    rw [WO z l e (a+f.aT),AW,show a+f.aT+bA l=a+(f.aT+bA l) by omega,List.append_assoc]
theorem Mn (z:Sp):∀(l:List aV) (a:Int),(jE z l a).length≤l.length
  |[],a=>by simp [jE]
  |f::l,a=>by
    have:=Mn z l (a+f.aT);show(_++jE z l (a+f.aT)).length≤l.length+1
    rw [List.length_append];split<;>simp<;>omega
theorem WQ {z:Sp} {c:aV}:∀{l:List aV} {a:Int},c∈jE z l a→∃e∈l,c.cn=e.cn
  |[],a,h=>by simp [jE] at h
  |f::l,a,h=>by
    have h:c∈(if a<z.b∧z.a<a+f.aT then [⟨prt z a f.aT,f.cn⟩] else [])++jE z l (a+f.aT):=h
    rcases List.mem_append.1 h with h|h
    · split at h
      · rw [List.mem_singleton] at h
        exact⟨f,List.mem_cons_self ..,by rw [h]⟩
      · simp at h
    · obtain⟨e,he,h⟩:=WQ h
      exact⟨e,List.mem_cons_of_mem _ he,h⟩
theorem WR (X Y z:Sp):∀(l:List aV) (a m:Int),(jE z l a).foldl (fun m e=>max m (lk X Y e.cn)) m=wn X Y z l a m
  |[],a,m=>rfl
  |f::l,a,m=>by
    show((if a<z.b∧z.a<a+f.aT then [(⟨prt z a f.aT,f.cn⟩:aV)] else [])++jE z l (a+f.aT)).foldl _ m=wn X Y z l (a+f.aT) (if a<z.b∧z.a<a+f.aT then max m (lk X Y f.cn) else m)
    rw [List.foldl_append,WR X Y z l];split<;>rfl
def HB (l:List aV) (vz:Sp) (Mo:List aV) (bZ:Int) (i:Int):Option (((List aV)×Int×Int)⊕(List aV)):=
  (bif(decide (i<((l.length:Nat):Int))) then(β (aC l i) (fun e=>(bif(decide (0<(En (⟨max vz.a 0,min vz.b 20000⟩:Sp) bZ e.aT))) then(β (aC l i) (fun e1=>(β (cK 40 Mo ([(⟨En (⟨max vz.a 0,min vz.b 20000⟩:Sp) bZ e.aT,e1.cn⟩:aV)])) (fun l1=>(β (aC l i) (fun e2=>some (κ (l1,U (bZ+e2.aT),U (i+1))))))))) else(β (aC l i) (fun e3=>some (κ (Mo,U (bZ+e3.aT),U (i+1)))))))) else some (ι Mo))
def Mp (l:List aV) (vz:Sp):Option (List aV):=
  (β (jL l) (fun cv=>(bif(cv !=0) then some ([]) else(β ((bb (fun q=>HB l vz q.1 q.2.1 q.2.2) ([],0,0)):Option (List aV)) (fun out=>some out)))))
theorem am2 {l:List aV} (h:lX l) (hc:jL l=some 0) {z:Sp} (hz:0≤z.a∧z.a<z.b∧z.b≤bA l):Mp l z=some (jE z l 0):=by
  have hl:=h.len;have Hy:=h.xE;unfold Mp;rw [hc,aN,show((0:Int)!=0)=false from rfl,cond_false]
  have:=n4 (step:=fun q:List aV×Int×Int=>HB l z q.1 q.2.1 q.2.2) (fun j=>(jE z (l.take j) 0,bA (l.take j),(j:Int))) l.length (y:=jE z l 0) (fun j hj=>by
    have h1:=qR h j (by omega);have h2:=qR h (j+1) (by omega);have h3:=tc hj;have hs:=h.sec _ (List.getElem_mem hj);have hlen:=Mn z (l.take j) 0;rw [List.length_take] at hlen;unfold HB;dsimp only;rw [fm hj,cond_true,cQ hj];simp only [aN];rw [bu (n:=bA _+_) (by omega) (by omega),bK (by omega)]
    have hp:(0<En (⟨max z.a 0,min z.b 20000⟩:Sp) (bA (l.take j)) l[j].aT)↔(bA (l.take j)<z.b∧z.a<bA (l.take j)+l[j].aT):=by
      unfold En;dsimp only;rw [bu (n:=bA _+_) (by omega) (by omega)];by_cases h4:min (min z.b 20000) (bA (l.take j)+l[j].aT)≤max (max z.a 0) (bA (l.take j))
      · rw [decide_eq_true h4,cond_true]
        omega
      · rw [decide_eq_false h4,cond_false,bu (by omega) (by omega)]
        omega
    rw [h3,List.take_succ_eq_append_getElem hj,WO,Int.zero_add];by_cases h5:bA (l.take j)<z.b∧z.a<bA (l.take j)+l[j].aT
    · rw [decide_eq_true (hp.2 h5),cond_true,jT (by simp;omega) (by simp;omega),aN,if_pos h5]
      rfl
    · rw [decide_eq_false fun h=>h5 (hp.1 h),cond_false,if_neg h5,List.append_nil]) (by
    unfold HB;dsimp only;rw [fX,List.take_length];rfl)
  rw [show(jE z (l.take 0) 0,bA (l.take 0),((0:Nat):Int))=(([]:List aV),(0:Int),(0:Int)) from rfl] at this
  rw [this];rfl
def HC (b:Bx) (cv:List aV) (jC:Int) (i:Int):Option ((Int×Int)⊕Int):=
  (bif(decide (i<((cv.length:Nat):Int))) then(β (aC cv i) (fun e=>(β (Mm e.cn (⟨b.x,b.y⟩:aJ)) (fun wv=>(bif((U ((U (b.x.b -b.x.a))*(U (b.y.b -b.y.a))))!=0) then some (κ ((max jC (U (Int.tdiv (U ((U ((U (1000*(U ((U ((U (b.x.b -b.x.a))*(U (b.y.b -b.y.a)))) -wv))))+(U ((U (b.x.b -b.x.a))*(U (b.y.b -b.y.a)))))) -1)) (U ((U (b.x.b -b.x.a))*(U (b.y.b -b.y.a))))))),U (i+1))) else none))))) else some (ι jC))
def Mq (l:List aV) (b:Bx):Option Int:=
  (β (Mp l b.z) (fun cv=>(β ((bb (fun q=>HC b cv q.1 q.2) (0,0)):Option Int) (fun most=>some most))))
theorem am3 {l:List aV} (h:lX l) (hc:jL l=some 0) {b:Bx} (hr:uT b.x b.y) (hz:0≤b.z.a∧b.z.a<b.z.b∧b.z.b≤bA l):Mq l b=some (wn b.x b.y b.z l 0 0):=by
  have hl:=h.len;have hx:=hr.x;have hy:=hr.y;have ha:=Hz hr;have hlen:=Mn b.z l 0;unfold Mq;rw [am2 h hc hz,aN]
  have:=Hu (step:=fun q:Int×Int=>HC b (jE b.z l 0) q.1 q.2) (jE b.z l 0) (fun m e=>max m (lk b.x b.y e.cn)) 0 (fun m j=>(m,(j:Int))) (fun m=>m) (fun m j hj=>by
    obtain⟨e,he,hes⟩:=WQ (List.getElem_mem hj);have hs:=h.sec e he;rw [←hes] at hs;unfold HC;dsimp only;rw [fm hj,cond_true,cQ hj,aN,amW hs.1 hs.2.2,aN,WL hr];rw [bu (n:=b.x.b -b.x.a) (by omega) (by omega),bu (n:=b.y.b -b.y.a) (by omega) (by omega),show(b.x.b -b.x.a)*(b.y.b -b.y.a)=lA b.x b.y from rfl,bu (n:=lA _ _) (by omega) (by omega),uP (by omega),cond_true,bK (by omega)]) (fun m=>by
    unfold HC;dsimp only;rw [fX];rfl)
  rw [show(((0:Int)),((0:Nat):Int))=((0:Int),(0:Int)) from rfl] at this
  rw [this,WR];rfl
def rP (z:Sp) (n:Int):Bool:=decide (0≤z.a)&&(decide (z.a<z.b)&&decide (z.b≤n))
theorem am5 (z:Sp) (n:Int):As z n=rP z n:=by
  unfold As rP;cases decide (0≤z.a)<;>cases decide (z.a<z.b)<;>rfl
def Mr (l:List aV) (b:Bx):Option Bool:=
  (bif(fp b.x) then(bif(fp b.y) then(bif(decide (0≤b.z.a)) then(bif(decide (b.z.a<b.z.b)) then(β (rF l) (fun lv=>some (decide (b.z.b≤lv)))) else some false) else some false) else some false) else some false)
theorem am6 {l:List aV} {b:Bx} {n:Int} (h:rF l=some n):Mr l b=some (fp b.x&&fp b.y&&rP b.z n):=by
  unfold Mr rP;rw [h];cases fp b.x<;>cases fp b.y<;>cases decide (0≤b.z.a)<;>cases decide (b.z.a<b.z.b)<;>rfl
theorem Ms {z:Sp} {n:Int} (h:rP z n=true):0≤z.a∧z.a<z.b∧z.b≤n:=by
  unfold rP at h;simp only [Bool.and_eq_true,decide_eq_true_eq] at h;exact h
abbrev lY (l:List aV):Prop:=∀e∈l,ct e.cn.b6∧ct e.aT
def exts:List aV→Int→List Sp
  |[],_=>[]
  |e::es,a=>⟨a,a+e.aT⟩::exts es (a+e.aT)
theorem HE:∀(l:List aV) (a:Int),(exts l a).length=l.length
  |[],_=>rfl
  |e::es,a=>by
    show(exts es (a+e.aT)).length+1=es.length+1
    rw [HE es]
theorem WS:∀(l:List aV) (e:aV) (a:Int),exts (l++[e]) a=exts l a++[⟨a+bA l,a+bA l+e.aT⟩]
  |[],e,a=>by simp [exts,bA]
  |f::l,e,a=>by
    show _::exts (l++[e]) (a+f.aT)=_::(exts l (a+f.aT)++_)
    rw [WS l e,AW,show a+f.aT+bA l=a+(f.aT+bA l) by omega]
theorem WT:∀(l:List aV) (a:Int) (j:Nat) (hj:j<l.length),(exts l a)[j]?=some ⟨a+bA (l.take j),a+bA (l.take j)+l[j].aT⟩
  |[],a,j,hj=>by simp at hj
  |f::l,a,0,hj=>by simp [exts,bA]
  |f::l,a,j+1,hj=>by
    show(exts l (a+f.aT))[j]?=_
    have qS:j<l.length:=by simpa using hj
    rw [WT l _ j qS,List.take_succ_cons,AW,List.getElem_cons_succ,show a+f.aT+bA (l.take j)=a+(f.aT+bA (l.take j)) by omega]
theorem am7 {α:Type} (A:List α) (n:Nat) (z v:α):(A++List.replicate (n+1) z).set A.length v=A++[v]++List.replicate n z:=by
  rw [List.set_append_right _ _ (Nat.le_refl _)];simp [List.replicate_succ]
theorem am8 {l:List aV} (h:lX l):DA l=some (exts l 0):=by
  have hl:=h.len;have Hy:=h.xE;unfold DA
  have hm:kn 16 (⟨0,0⟩:Sp) ((l.length:Nat):Int)=some (List.replicate l.length ⟨0,0⟩):=by
    unfold kn;rw [decide_eq_true (by omega),decide_eq_true (by omega),decide_eq_true (by omega)];rfl
  rw [hm,aN]
  have:=n4 (step:=fun q:Int×Int×List Sp=>xb l q.1 q.2.1 q.2.2) (fun j=>(bA (l.take j),(j:Int),exts (l.take j) 0++List.replicate (l.length -j) ⟨0,0⟩)) l.length (y:=exts l 0) (fun j hj=>by
    have h1:=qR h j (by omega);have h2:=qR h (j+1) (by omega);have h3:=tc hj;have hlen:(exts (l.take j) 0).length=j:=by rw [HE,List.length_take];omega
    unfold xb;dsimp only
    have hg:aC (exts (l.take j) 0++List.replicate (l.length -j) (⟨0,0⟩:Sp)) (j:Int)=some ⟨0,0⟩:=by
      rw [BM,List.getElem?_append_right (by omega),hlen,Nat.sub_self,List.getElem?_replicate];simp;omega
    rw [fm hj,cond_true,cQ hj,aN,hg,aN,bu (by omega) (by omega),bK (by omega),h3]
    have am9:aU (exts (l.take j) 0++List.replicate (l.length -j) (⟨0,0⟩:Sp)) (j:Int) (⟨bA (l.take j),bA (l.take j)+l[j].aT⟩:Sp)=exts (l.take (j+1)) 0++List.replicate (l.length -(j+1)) (⟨0,0⟩:Sp):=by
      rw [List.take_succ_eq_append_getElem hj,WS,Int.zero_add];have:=am7 (exts (l.take j) 0) (l.length -(j+1)) (⟨0,0⟩:Sp) ⟨bA (l.take j),bA (l.take j)+l[j].aT⟩;rw [hlen,show l.length -(j+1)+1=l.length -j by omega] at this
      exact this
    rw [am9]) (by
    unfold xb;dsimp only;rw [fX,List.take_length,Nat.sub_self];simp)
  rw [show(bA (l.take 0),((0:Nat):Int),exts (l.take 0) 0++List.replicate (l.length -0) (⟨0,0⟩:Sp))=((0:Int),(0:Int),List.replicate l.length (⟨0,0⟩:Sp)) from rfl] at this
  rw [this];rfl
def d_ (X Y z:Sp):List aV→Int→Int
  |[],_=>0
  |e::es,a=>cm ⟨a,a+e.aT⟩ z*dD X Y e.cn.Rows e.cn.b6+d_ X Y z es (a+e.aT)
def lc (X Y z:Sp):List aV→Int→Int
  |[],_=>0
  |e::es,a=>cm ⟨a,a+e.aT⟩ z*(lA X Y -dD X Y e.cn.Rows e.cn.b6)+lc X Y z es (a+e.aT)
def lz (z:Sp):List aV→Int→Int
  |[],_=>0
  |e::es,a=>cm ⟨a,a+e.aT⟩ z+lz z es (a+e.aT)
theorem WU (X Y z:Sp):∀(l:List aV) (e:aV) (a:Int),d_ X Y z (l++[e]) a=d_ X Y z l a+cm ⟨a+bA l,a+bA l+e.aT⟩ z*dD X Y e.cn.Rows e.cn.b6
  |[],e,a=>by simp [d_,bA]
  |f::l,e,a=>by
    show _+d_ X Y z (l++[e]) (a+f.aT)=_+d_ X Y z l (a+f.aT)+_
    rw [WU X Y z l e,AW,show a+f.aT+bA l=a+(f.aT+bA l) by omega]
    omega
theorem Mt {X Y z:Sp}:∀(l:List aV) (a:Int),(∀e∈l,mu e.cn∧1≤e.aT∧e.aT≤20000)→0≤d_ X Y z l a∧d_ X Y z l a≤28800000000*l.length
  |[],a,_=>by simp [d_]
  |f::l,a,h=>by
    have hf:=h f (List.mem_cons_self ..);have ih:=Mt l (a+f.aT) (fun e he=>h e (List.mem_cons_of_mem _ he)) (X:=X) (Y:=Y) (z:=z);have h1:cm ⟨a,a+f.aT⟩ z≤20000:=xF (by omega) (by show a+f.aT -a≤20000;omega)
    have h2:=Em X Y f.cn.Rows f.cn.b6 hf.1.ta;have h3:=uS X Y f.cn.Rows f.cn.b6;have hlen:=hf.1.len;have h4:=Int.mul_le_mul h1 (show dD X Y f.cn.Rows f.cn.b6≤1440000 by omega) h3 (by omega)
    have h5:=Int.mul_nonneg (n5 ⟨a,a+f.aT⟩ z) h3;show 0≤_+d_ X Y z l (a+f.aT)∧_+d_ X Y z l (a+f.aT)≤_
    rw [List.length_cons];omega
theorem Eo {l:List aV} (h:lX l):∀e∈l,mu e.cn∧1≤e.aT∧e.aT≤20000:=by
  intro e he;have h1:=h.sec e he;obtain⟨j,hj,rfl⟩:=List.getElem_of_mem he;have h2:=qR h j (by omega);have h3:=qR h (j+1) (by omega);have h4:=tc hj;have:=h.xE;exact⟨h1.1,h1.2.1,by omega⟩
theorem rQ {l:List aV} (h:lX l) (hc:jL l=some 0) (b:Bx):rK l b=some (d_ b.x b.y b.z l 0):=by
  have hl:=h.len;have Hy:=h.xE;unfold rK rJ;rw [xC,hc,aN,show((0:Int)!=0)=false from rfl,cond_false,aN,am8 h,aN]
  have:=n4 (step:=fun q:Int×Int=>xc b l (exts l 0) q.1 q.2) (fun j=>(d_ b.x b.y b.z (l.take j) 0,(j:Int))) l.length (y:=d_ b.x b.y b.z l 0) (fun j hj=>by
    have h1:=qR h j (by omega);have h2:=qR h (j+1) (by omega);have h3:=tc hj;have hs:=h.sec _ (List.getElem_mem hj);have hb:=Mt (X:=b.x) (Y:=b.y) (z:=b.z) (l.take j) 0 fun e he=>Eo h e (List.mem_of_mem_take he)
    have mH:=Mt (X:=b.x) (Y:=b.y) (z:=b.z) (l.take (j+1)) 0 fun e he=>Eo h e (List.mem_of_mem_take he)
    have h4:=WU b.x b.y b.z (l.take j) l[j] 0;rw [←List.take_succ_eq_append_getElem hj,Int.zero_add] at h4;rw [List.length_take] at hb mH;have hg:=WT l 0 j hj;rw [Int.zero_add] at hg;unfold xc;dsimp only;rw [HE,fm hj,cond_true,BM,hg,aN,fe,Mj (by dsimp only;omega),cQ hj,aN,WJ hs.1 hs.2.2,aN,bK (by omega)];have h5:=Int.mul_nonneg (n5 ⟨bA (l.take j),bA (l.take j)+l[j].aT⟩ b.z) (uS b.x b.y l[j].cn.Rows l[j].cn.b6);dsimp only;by_cases hp:0<cm ⟨bA (l.take j),bA (l.take j)+l[j].aT⟩ b.z
    · rw [decide_eq_true hp,cond_true,bu (n:=cm _ _*_) (by omega) (by omega),←h4,bu (by omega) (by omega)]
    · rw [decide_eq_false hp,cond_false]
      have h6:=n5 ⟨bA (l.take j),bA (l.take j)+l[j].aT⟩ b.z;have h7:cm ⟨bA (l.take j),bA (l.take j)+l[j].aT⟩ b.z=0:=by omega
      rw [h7,Int.zero_mul,Int.add_zero] at h4;rw [h4]) (by
    unfold xc;dsimp only;rw [HE,fX,List.take_length];rfl)
  rw [show(d_ b.x b.y b.z (l.take 0) 0,((0:Nat):Int))=((0:Int),(0:Int)) from rfl] at this
  rw [this];rfl
def xG (c:Int):Bool:=qI c||(Aa c||c==95)
def WV (c:Int):Bool:=
  (bif(decide (48≤c)) then(decide (c≤57)) else false)
def xH (s:ByteArray) (i:Int):Option (Int⊕(Bool⊕Unit)):=
  (bif(decide (i<((s.size:Nat):Int))) then(β ((β (pA s i) (fun c=>(bif(decide (97≤c)) then(β (pA s i) (fun c1=>some (decide (c1≤122)))) else some false))):Option Bool) (fun letter=>(bif(!letter) then(bif(i==0) then some (ι (κ false)) else(β (pA s i) (fun c2=>(bif(c2 !=95) then(β (pA s i) (fun c3=>(bif(!(WV c3)) then some (ι (κ false)) else some (κ (U (i+1)))))) else some (κ (U (i+1))))))) else some (κ (U (i+1)))))) else some (ι (ι ())))
def Ep (s:ByteArray):Option Bool:=
  (bif(decide (((s.size:Nat):Int)<1)) then some false else(bif(decide (16<((s.size:Nat):Int))) then some false else(β ((bb (fun q=>xH s q) 0):Option (Bool⊕Unit)) (Sum.elim (fun q=>some q) (fun _=>some true)))))
theorem WW (s:ByteArray):∃b,wN s=some b∧Ep s=some b:=by
  unfold wN Ep;by_cases h1:s.size<1
  · rw [decide_eq_true (by omega)]
    exact⟨false,rfl,rfl⟩
  · rw [decide_eq_false (by omega),cond_false,cond_false]
    by_cases h2:16<s.size
    · rw [decide_eq_true (by omega)]
      exact⟨false,rfl,rfl⟩
    · rw [decide_eq_false (by omega),cond_false,cond_false]
      have hb:pA s 0=some (iD s 0):=JC (n:=0) (by omega)
      have l1:bb (fun q=>um s q) 1=some (bif(List.range (s.size -1)).all (fun j=>xG (iD s (j+1))) then .inr () else .inl false):=by
        refine Ei (step:=fun q:Int=>um s q) (s.size -1) (fun j=>((j+1:Nat):Int)) (fun j=>xG (iD s (j+1))) false (fun j hj=>?_) ?_
        · unfold um
          rw [fm (by omega),cond_true,JC (by omega),aN,bK (by omega)];unfold xG;cases qI (iD s (j+1))<;>cases Aa (iD s (j+1))<;>cases h:(iD s (j+1)==95)<;>simp [bne,h]
        · unfold um
          rw [show s.size -1+1=s.size by omega,fX]
          rfl
      have l2:bb (fun q=>xH s q) 1=some (bif(List.range (s.size -1)).all (fun j=>xG (iD s (j+1))) then .inr () else .inl false):=by
        refine Ei (step:=fun q:Int=>xH s q) (s.size -1) (fun j=>((j+1:Nat):Int)) (fun j=>xG (iD s (j+1))) false (fun j hj=>?_) ?_
        · unfold xH
          rw [fm (by omega),cond_true,JC (by omega)];simp only [aN];rw [bK (by omega),show(((j+1:Nat):Int)==0)=false by simp;omega]
          unfold xG qI Aa WV;cases decide (97≤iD s (j+1))<;>cases decide (iD s (j+1)≤122)<;>cases decide (48≤iD s (j+1))<;>cases decide (iD s (j+1)≤57)<;>cases h:(iD s (j+1)==95)<;>simp [bne,h]
        · unfold xH
          rw [show s.size -1+1=s.size by omega,fX]
          rfl
      rw [hb,aN]
      have hs:xH s 0=bif qI (iD s 0) then some (.inl 1) else some (.inr (.inl false)):=by
        unfold xH;rw [show decide ((0:Int)<((s.size:Nat):Int))=true by rw [decide_eq_true_eq];omega,cond_true,hb]
        simp only [aN];unfold qI;cases decide (97≤iD s 0)<;>cases decide (iD s 0≤122)<;>rfl
      cases hc:qI (iD s 0) with
      |false=>
        rw [hc] at hs;rw [fr hs];exact⟨false,rfl,rfl⟩
      |true=>
        rw [hc] at hs;rw [iU hs,l1,l2];cases(List.range (s.size -1)).all (fun j=>xG (iD s (j+1))) with
        |false=>exact⟨false,rfl,rfl⟩
        |true=>exact⟨true,rfl,rfl⟩
def xI (p:bh):Option Int:=
 (bif(((p.bG.length:Nat):Int)==0) then some 3 else(bif(decide (8<((p.bG.length:Nat):Int))) then some 4 else(bif(((p.dB.length:Nat):Int)!=((p.bG.length:Nat):Int)) then some 19 else(β ((bb (fun q=>AR p q) 0):Option (Int⊕Unit)) (Sum.elim (fun q=>some q) (fun _=>(β ((bb (fun q=>xD p q) 0):Option (Int⊕Unit)) (Sum.elim (fun q=>some q) (fun _=>some 0)))))))))
theorem Mu (p:bh):sW p=(bif(decide (p.fh<5)) then some 9 else(bif(decide (300<p.fh)) then some 9 else(bif(decide (p.gg<p.fh)) then some 9 else(bif(decide (600<p.gg)) then some 9 else(bif(decide (p.fK<0)) then some 9 else(bif(decide (200<p.fK)) then some 9 else(bif(decide (p.gP<0)) then some 9 else(bif(decide (1000<p.gP)) then some 9 else(bif(decide (600<(jg p).2)) then some 9 else xI p))))))))):=by
  unfold sW xI;have h1:(fun q=>wP p q)=(fun q=>AR p q):=funext fun v=>amU p v
  have h2:(fun q=>wQ p q)=(fun q=>xD p q):=funext fun v=>amV p v
  rw [h1,h2,fe,Mi]
structure rR (p:bh):Prop where
  t:5≤p.fh∧p.fh≤300
  w:p.fh≤p.gg∧p.gg≤600
  a:0≤p.fK∧p.fK≤200
  n:0≤p.gP∧p.gP≤1000
  l:p.bG.length≤8
  s:p.dB.length=p.bG.length
  r:∀(j:Nat) (hj:j<p.bG.length),100≤p.bG[j]∧p.bG[j]≤20000∧∀(hi:0<j),p.bG[j -1]<p.bG[j]
  c:∀(j:Nat) (hj:j<p.dB.length),0≤p.dB[j]∧p.dB[j]≤1000000
theorem am_ (p:bh):∃c,xI p=some c∧(c=0→p.bG.length≤8∧p.dB.length=p.bG.length∧(∀(j:Nat) (hj:j<p.bG.length),100≤p.bG[j]∧p.bG[j]≤20000∧∀(hi:0<j),p.bG[j -1]<p.bG[j])∧∀(j:Nat) (hj:j<p.dB.length),0≤p.dB[j]∧p.dB[j]≤1000000):=by
  unfold xI;by_cases h0:p.bG.length=0
  · rw [show((((p.bG.length:Nat):Int))==0)=true by simp [h0]]
    exact⟨3,rfl,fun h=>by omega⟩
  · rw [show((((p.bG.length:Nat):Int))==0)=false by simp;intro h;simp [h] at h0,cond_false]
    by_cases h1:8<p.bG.length
    · rw [decide_eq_true (by omega)]
      exact⟨4,rfl,fun h=>by omega⟩
    · rw [decide_eq_false (by omega),cond_false]
      by_cases h2:p.dB.length=p.bG.length
      · rw [show((((p.dB.length:Nat):Int))!=((p.bG.length:Nat):Int))=false by simp [h2],cond_false]
        obtain⟨y,hy,hG⟩:=p_ (step:=fun q:Int=>AR p q) (fun q=>∃k:Nat,k≤p.bG.length∧q=(k:Int)∧∀(j:Nat) (hj:j<p.bG.length),j<k→100≤p.bG[j]∧p.bG[j]≤20000∧∀(hi:0<j),p.bG[j -1]<p.bG[j]) (fun q=>p.bG.length -q.toNat) (fun y=>(∃c,y=.inl c∧c≠0)∨(y=.inr ()∧∀(j:Nat) (hj:j<p.bG.length),100≤p.bG[j]∧p.bG[j]≤20000∧∀(hi:0<j),p.bG[j -1]<p.bG[j])) (by
          rintro q ⟨k,hk,rfl,ha⟩;unfold AR;rcases Nat.lt_or_ge k p.bG.length with bB|tw
          · rw [fm bB,cond_true,cQ bB]
            simp only [aN];by_cases h3:p.bG[k]<100
            · rw [decide_eq_true h3]
              exact .inr ⟨_,rfl,.inl ⟨_,rfl,by omega⟩⟩
            · rw [decide_eq_false h3,cond_false]
              by_cases h4:20000<p.bG[k]
              · rw [decide_eq_true h4]
                exact .inr ⟨_,rfl,.inl ⟨_,rfl,by omega⟩⟩
              · rw [decide_eq_false h4,cond_false,bK (by omega)]
                have tI:∀(hh:∀(hi:0<k),p.bG[k -1]<p.bG[k]),(∃x',(some (κ ((k+1:Nat):Int)):Option (Int⊕(Int⊕Unit)))=some (.inl x')∧(∃k:Nat,k≤p.bG.length∧x'=(k:Int)∧∀(j:Nat) (hj:j<p.bG.length),j<k→100≤p.bG[j]∧p.bG[j]≤20000∧∀(hi:0<j),p.bG[j -1]<p.bG[j])∧p.bG.length -x'.toNat<p.bG.length -((k:Int)).toNat):=by
                  intro hh;refine⟨_,rfl,⟨k+1,by omega,rfl,fun j hj hjk=>?_⟩,by omega⟩;rcases Nat.lt_or_ge j k with h5|h5
                  · exact ha j hj h5
                  · have:j=k:=by omega
                    subst this;exact⟨by omega,by omega,hh⟩
                by_cases h5:0<k
                · have g1:=cQ (l:=p.bG) (j:=k -1) (by omega)
                  rw [decide_eq_true (p:=(0:Int)<(k:Int)) (by omega),cond_true,bu (by omega) (by omega),show(k:Int) -1=((k -1:Nat):Int) by omega,g1,aN]
                  by_cases h6:p.bG[k]≤p.bG[k -1]
                  · rw [decide_eq_true h6]
                    exact .inr ⟨_,rfl,.inl ⟨_,rfl,by omega⟩⟩
                  · rw [decide_eq_false h6]
                    exact .inl (tI fun _=>by omega)
                · rw [decide_eq_false (p:=(0:Int)<(k:Int)) (by omega)]
                  exact .inl (tI fun h=>absurd h h5)
          · have:k=p.bG.length:=by omega
            subst this;rw [fX];exact .inr ⟨_,rfl,.inr ⟨rfl,fun j hj=>ha j hj hj⟩⟩) 0 ⟨0,by omega,rfl,fun j _ h=>by omega⟩
        rw [hy,aN];rcases hG with⟨c,rfl,hc⟩|⟨rfl,ec⟩
        · exact⟨c,rfl,fun h=>absurd h hc⟩
        · rw [Sum.elim_inr]
          have pS:=Ei (step:=fun q:Int=>xD p q) p.dB.length (fun j=>(j:Int)) (fun j=>(p.dB[j]?).elim true fun e=>!(decide (e<0)||decide (1000000<e))) (9:Int) (fun j hj=>by
            unfold xD;rw [fm hj,cond_true,cQ hj,aN,aN,bK (by omega),List.getElem?_eq_getElem hj];show _=bif !(decide (p.dB[j]<0)||decide (1000000<p.dB[j])) then _ else _
            cases decide (p.dB[j]<0)<;>cases decide (1000000<p.dB[j])<;>rfl) (by
            unfold xD;rw [fX];rfl)
          rw [show((0:Nat):Int)=0 from rfl] at pS
          rw [pS,aN];cases lh:(List.range p.dB.length).all (fun j=>(p.dB[j]?).elim true fun e=>!(decide (e<0)||decide (1000000<e))) with
          |false=>exact⟨9,rfl,fun h=>by omega⟩
          |true=>
            refine⟨0,rfl,fun _=>⟨by omega,h2,ec,fun j hj=>?_⟩⟩;rw [List.all_eq_true] at lh;have:=lh j (List.mem_range.2 hj);rw [List.getElem?_eq_getElem hj] at this;have h4:(!(decide (p.dB[j]<0)||decide (1000000<p.dB[j])))=true:=this;rw [Bool.not_eq_true',Bool.or_eq_false_iff,decide_eq_false_iff_not,decide_eq_false_iff_not] at h4;omega
      · rw [show((((p.dB.length:Nat):Int))!=((p.bG.length:Nat):Int))=true by simp;omega]
        exact⟨19,rfl,fun h=>by omega⟩
theorem WZ (p:bh):∃c,sW p=some c∧(c=0→rR p):=by
  rw [Mu];by_cases h1:p.fh<5
  · rw [decide_eq_true h1]
    exact⟨9,rfl,fun h=>by omega⟩
  rw [decide_eq_false h1,cond_false];by_cases h2:300<p.fh
  · rw [decide_eq_true h2]
    exact⟨9,rfl,fun h=>by omega⟩
  rw [decide_eq_false h2,cond_false];by_cases h3:p.gg<p.fh
  · rw [decide_eq_true h3]
    exact⟨9,rfl,fun h=>by omega⟩
  rw [decide_eq_false h3,cond_false];by_cases h4:600<p.gg
  · rw [decide_eq_true h4]
    exact⟨9,rfl,fun h=>by omega⟩
  rw [decide_eq_false h4,cond_false];by_cases h5:p.fK<0
  · rw [decide_eq_true h5]
    exact⟨9,rfl,fun h=>by omega⟩
  rw [decide_eq_false h5,cond_false];by_cases h6:200<p.fK
  · rw [decide_eq_true h6]
    exact⟨9,rfl,fun h=>by omega⟩
  rw [decide_eq_false h6,cond_false];by_cases h7:p.gP<0
  · rw [decide_eq_true h7]
    exact⟨9,rfl,fun h=>by omega⟩
  rw [decide_eq_false h7,cond_false];by_cases h8:1000<p.gP
  · rw [decide_eq_true h8]
    exact⟨9,rfl,fun h=>by omega⟩
  rw [decide_eq_false h8,cond_false];cases decide (600<(jg p).2) with
  |true=>exact⟨9,rfl,fun h=>by omega⟩
  |false=>
    obtain⟨c,hc,ec⟩:=am_ p;refine⟨c,hc,fun h=>?_⟩;obtain⟨a1,a2,a3,a4⟩:=ec h;exact⟨by omega,by omega,by omega,by omega,a1,a2,a3,a4⟩
theorem ana (p:bh):nj [p] 0=(wN p.Name).bind fun iv=>bif !iv then some (.inr (.inl 6)) else(sW p).bind fun cv=>bif(cv !=0) then some (.inr (.inl cv)) else some (.inl 1):=by
  unfold nj;show(β (wN p.Name) fun iv=>(bif(!iv) then some (ι (κ 6)) else(β (uq [] p.Name) (fun fv=>(bif fv.2 then some (ι (κ 7)) else(β (sW p) (fun cv=>(bif(cv !=0) then some (ι (κ cv)) else some (κ 1)))))))))=_
  have hf:uq [] p.Name=some (0,false):=by
    unfold uq;rw [fr (y:=.inr ()) rfl];rfl
  rw [hf];rfl
def AX (l:List bh) (i:Int) (e:bh) (k:Int):Option (Int⊕(((Int⊕(Int⊕Unit))⊕Unit)⊕Unit)):=
 (bif(decide (k<i)) then(β (aC l k) (fun e1=>(bif(kl e1.Name e.Name) then some (ι (κ (κ (ι (κ 7))))) else some (κ (U (k+1)))))) else some (ι (ι ())))
def pT (l:List bh) (i:Int):Option (Int⊕(Int⊕Unit)):=
 (bif(decide (i<((l.length:Nat):Int))) then(β ((β (aC l i) (fun e=>(β (Ep e.Name) (fun iv=>(bif(!iv) then some (κ (ι (κ 6))) else(β ((bb (fun q=>AX l i e q) 0):Option (((Int⊕(Int⊕Unit))⊕Unit)⊕Unit)) (Sum.elim (fun q=>some q) (fun _=>(bif(decide (e.fh<5)) then some (κ (ι (κ 9))) else(bif(decide (300<e.fh)) then some (κ (ι (κ 9))) else(bif(decide (e.gg<e.fh)) then some (κ (ι (κ 9))) else(bif(decide (600<e.gg)) then some (κ (ι (κ 9))) else(bif(decide (e.fK<0)) then some (κ (ι (κ 9))) else(bif(decide (200<e.fK)) then some (κ (ι (κ 9))) else(bif(decide (e.gP<0)) then some (κ (ι (κ 9))) else(bif(decide (1000<e.gP)) then some (κ (ι (κ 9))) else(cU (jg e) (fun gv=>(bif(decide (600<gv.2)) then some (κ (ι (κ 9))) else(β (xI e) (fun cv=>(bif(cv !=0) then some (κ (ι (κ cv))) else some (ι ()))))))))))))))))))))))):Option ((Int⊕(Int⊕Unit))⊕Unit)) (Sum.elim (fun q=>some q) (fun _=>some (κ (U (i+1)))))) else some (ι (ι ())))
theorem anb (p:bh):pT [p] 0=(Ep p.Name).bind fun iv=>bif !iv then some (.inr (.inl 6)) else(sW p).bind fun cv=>bif(cv !=0) then some (.inr (.inl cv)) else some (.inl 1):=by
  rw [Mu];unfold pT;rw [show decide ((0:Int)<(([p].length:Nat):Int))=true from rfl,cond_true,show aC [p] 0=some p from rfl,aN]
  cases Ep p.Name with
  |none=>rfl
  |some iv=>
    rw [aN,aN];cases iv with
    |false=>rfl
    |true=>
      rw [show(!true)=false from rfl,cond_false,cond_false,fr (y:=.inr ()) rfl,aN,Sum.elim_inr,fe]
      cases decide (p.fh<5) with
      |true=>rfl
      |false=>
      cases decide (300<p.fh) with
      |true=>rfl
      |false=>
      cases decide (p.gg<p.fh) with
      |true=>rfl
      |false=>
      cases decide (600<p.gg) with
      |true=>rfl
      |false=>
      cases decide (p.fK<0) with
      |true=>rfl
      |false=>
      cases decide (200<p.fK) with
      |true=>rfl
      |false=>
      cases decide (p.gP<0) with
      |true=>rfl
      |false=>
      cases decide (1000<p.gP) with
      |true=>rfl
      |false=>
      cases decide (600<(jg p).2) with
      |true=>rfl
      |false=>
      cases xI p with
      |none=>rfl
      |some c=>
        simp only [cond_false,aN];cases(c !=0)<;>rfl
def AY (l:List bh):Option Int:=
 (bif(decide (16<((l.length:Nat):Int))) then some 4 else(β ((bb (fun q=>pT l q) 0):Option (Int⊕Unit)) (Sum.elim (fun q=>some q) (fun _=>some 0))))
theorem Mv (p:bh):∃c,nk [p]=some c∧AY [p]=some c∧(c=0→rR p):=by
  obtain⟨b,n1,n2⟩:=WW p.Name;obtain⟨c,hc,ec⟩:=WZ p;have s1:=ana p;have s2:=anb p;rw [n1,hc,aN,aN] at s1;rw [n2,hc,aN,aN] at s2;have e1:nj [p] 1=some (.inr (.inr ())):=rfl;have e2:pT [p] 1=some (.inr (.inr ())):=rfl;unfold nk AY;rw [show decide ((16:Int)<(([p].length:Nat):Int))=false from rfl,cond_false,cond_false]
  cases b with
  |false=>
    rw [fr (step:=fun q=>nj [p] q) s1,fr (step:=fun q=>pT [p] q) s2];exact⟨6,rfl,rfl,fun h=>by omega⟩
  |true=>
    by_cases h0:c=0
    · subst h0
      rw [iU (step:=fun q=>nj [p] q) s1,iU (step:=fun q=>pT [p] q) s2,fr (step:=fun q=>nj [p] q) e1,fr (step:=fun q=>pT [p] q) e2];exact⟨0,rfl,rfl,ec⟩
    · rw [uP h0] at s1 s2
      rw [fr (step:=fun q=>nj [p] q) s1,fr (step:=fun q=>pT [p] q) s2];exact⟨c,rfl,rfl,ec⟩
def AZ (p:bh) (length:Int) (i:Int):Option (Int⊕((Int×Bool)⊕Unit)):=
 (bif(decide (i<((p.bG.length:Nat):Int))) then(β (aC p.bG i) (fun e=>(bif(e==length) then(bif(decide (((p.dB.length:Nat):Int)≤i)) then some (ι (κ (0,false))) else(β (aC p.dB i) (fun e1=>some (ι (κ (e1,true)))))) else some (κ (U (i+1)))))) else some (ι (ι ())))
theorem anc (p:bh) (n v:Int):w_ p n v=AZ p n v:=by
  unfold w_ AZ;cases decide (v<((p.bG.length:Nat):Int)) with
  |false=>rfl
  |true=>
    cases aC p.bG v with
    |none=>rfl
    |some e=>
      simp only [cond_true,aN,bne];cases(e==n)<;>rfl
def uU (p:bh) (length:Int):Option (Int×Bool):=
 (β ((bb (fun q=>AZ p length q) 0):Option ((Int×Bool)⊕Unit)) (Sum.elim (fun q=>some q) (fun _=>some (0,false))))
theorem ane (p:bh) (n:Int):Dx p n=uU p n:=by
  unfold Dx uU;have h1:(fun q=>w_ p n q)=(fun q=>AZ p n q):=funext fun v=>anc p n v
  rw [h1]
def o7 (a:Sp) (b:Sp):Sp:=
  (bif(decide ((min a.b b.b)≤(max a.a b.a))) then(⟨0,0⟩:Sp) else(⟨max a.a b.a,min a.b b.b⟩:Sp))
def Mw (a:Bx) (b:Bx):Bx:=
  (cU (o7 a.x b.x) (fun mv=>(cU (o7 a.y b.y) (fun o4=>(cU (o7 a.z b.z) (fun uw=>(⟨mv,o4,uw⟩:Bx)))))))
def A0 (d:Df) (b:Bx):Bool:=
  (cU (Mw d.b b) (fun mv=>(!(uQ mv))))
theorem My (d:Df) (b:Bx):ux d b=A0 d b:=by
  unfold ux A0 G6 Mw uQ oV;simp only [fe];rw [show pK=o7 from rfl]
  cases decide ((o7 d.b.x b.x).b≤(o7 d.b.x b.x).a)<;>cases decide ((o7 d.b.y b.y).b≤(o7 d.b.y b.y).a)<;>cases decide ((o7 d.b.z b.z).b≤(o7 d.b.z b.z).a)<;>rfl
theorem anf {X Y:Type} {s1 s2:X→Option (X⊕Y)} (n:Nat) (st:Nat→X) (Good:Nat→Prop) (Mz:Y→Prop) (fin:Y)
    (h:∀j,j<n→(s1 (st j)=some (.inl (st (j+1)))∧s2 (st j)=some (.inl (st (j+1)))∧Good j)∨∃y,s1 (st j)=some (.inr y)∧s2 (st j)=some (.inr y)∧Mz y)
    (he:s1 (st n)=some (.inr fin)∧s2 (st n)=some (.inr fin)):∃y,bb s1 (st 0)=some y∧bb s2 (st 0)=some y∧((y=fin∧∀j,j<n→Good j)∨Mz y):=by
  have:∀k,k≤n→∃y,bb s1 (st (n -k))=some y∧bb s2 (st (n -k))=some y∧((y=fin∧∀j,n -k≤j→j<n→Good j)∨Mz y):=by
    intro k
    induction k with
    |zero=>
      intro _;exact⟨fin,fr he.1,fr he.2,.inl ⟨rfl,fun j h1 h2=>by omega⟩⟩
    |succ k ih=>
      intro hk;rcases h (n -(k+1)) (by omega) with⟨g1,g2,g3⟩|⟨y,g1,g2,g3⟩
      · obtain⟨y,e1,e2,e3⟩:=ih (by omega)
        rw [show n -(k+1)+1=n -k by omega] at g1 g2
        refine⟨y,by rw [iU g1,e1],by rw [iU g2,e2],e3.imp (fun⟨hy,e3⟩=>⟨hy,fun j h1 h2=>?_⟩) id⟩;by_cases hj:j=n -(k+1)
        · rw [hj]
          exact g3
        · exact e3 j (by omega) h2
      · exact⟨y,fr g1,fr g2,.inr g3⟩
  obtain⟨y,e1,e2,e3⟩:=this n (Nat.le_refl _);rw [Nat.sub_self] at e1 e2 e3;exact⟨y,e1,e2,e3.imp (fun⟨hy,e3⟩=>⟨hy,fun j hj=>e3 j (by omega) hj⟩) id⟩
theorem find_eq {l:List bh} (hl:l.length≤1000000) (name:ByteArray):∃k,uq l name=some (k,l.any fun q=>kl q.Name name):=by
  unfold uq
  have:=Wz (step:=fun q:Int=>uo l name q) l.length (fun j=>(j:Int)) (fun j=>(l[j]?).elim false fun e=>kl e.Name name) (fun j=>.inl ((j:Int),true)) (.inr ()) (fun j hj hp=>by
    rw [List.getElem?_eq_getElem hj] at hp;have xB:kl l[j].Name name=false:=hp;unfold uo;rw [fm hj,cond_true,cQ hj,aN,xB,bK (by omega)];rfl) (fun j hj hp=>by
    rw [List.getElem?_eq_getElem hj] at hp;have xB:kl l[j].Name name=true:=hp;unfold uo;rw [fm hj,cond_true,cQ hj,aN,xB];rfl) (by
    unfold uo;rw [fX];rfl)
  rw [show((0:Nat):Int)=0 from rfl] at this
  rw [this,aN];cases hf:(List.range l.length).find? (fun j=>(l[j]?).elim false fun e=>kl e.Name name) with
  |none=>
    rw [List.find?_eq_none] at hf
    have:(l.any fun q=>kl q.Name name)=false:=by
      rw [List.any_eq_false];intro e he;obtain⟨j,hj,rfl⟩:=List.getElem_of_mem he;have:=hf j (List.mem_range.2 hj);rw [List.getElem?_eq_getElem hj] at this;exact this
    rw [this];exact⟨0,rfl⟩
  |some j=>
    have h1:=List.find?_some hf;have h2:=List.mem_range.1 (List.mem_of_find?_eq_some hf);rw [List.getElem?_eq_getElem h2] at h1
    have:(l.any fun q=>kl q.Name name)=true:=by
      rw [List.any_eq_true];exact⟨l[j],List.getElem_mem h2,h1⟩
    rw [this];exact⟨_,rfl⟩
theorem ang {l:List bh} (hl:l.length≤1000000) {i:Nat} (hi:i≤l.length) (e:bh):bb (fun q:Int=>AX l (i:Int) e q) 0=some (bif(l.take i).any (fun q=>kl q.Name e.Name) then .inl (.inl (.inr (.inl 7))) else .inr ()):=by
  have hlen:(l.take i).length=i:=by rw [List.length_take];omega
  have:=Mf (step:=fun q:Int=>AX l (i:Int) e q) (l.take i) (fun q=>kl q.Name e.Name) (fun(u:Unit) _=>u) () (fun _ j=>(j:Int)) (.inl (.inl (.inr (.inl 7)))) (fun _=>.inr ()) (fun _ _=>True) trivial (fun _ _ _ _ _=>trivial) (fun s j hj _ hb=>by
    rw [hlen] at hj;unfold AX;rw [List.getElem_take] at hb;rw [fm hj,cond_true,cQ (show j<l.length by omega),aN,hb,cond_false,bK (by omega)]) (fun s j hj _ hb=>by
    rw [hlen] at hj;unfold AX;rw [List.getElem_take] at hb;rw [fm hj,cond_true,cQ (show j<l.length by omega),aN,hb]
    rfl) (fun _ _=>by
    unfold AX;rw [hlen,fX];rfl)
  exact this
theorem anh (c:List bh):∃e,nk c=some e∧AY c=some e∧(e=0→c.length≤16∧∀p∈c,rR p):=by
  unfold nk AY;by_cases h16:16<c.length
  · rw [decide_eq_true (by omega)]
    exact⟨4,rfl,rfl,fun h=>by omega⟩
  · rw [decide_eq_false (by omega),cond_false,cond_false]
    obtain⟨y,h1,h2,h3⟩:=anf (s1:=fun q=>nj c q) (s2:=fun q=>pT c q) c.length (fun j=>(j:Int)) (fun j=>∀hj:j<c.length,rR c[j]) (fun y=>∃v,y=.inl v∧v≠0) (.inr ()) (fun j hj=>by
      obtain⟨b,n1,n2⟩:=WW c[j].Name;obtain⟨k,hf⟩:=find_eq (l:=c.take j) (by rw [List.length_take];omega) c[j].Name;obtain⟨v,hv,ec⟩:=WZ c[j]
      have Bm:qa c 0 (j:Int)=some (c.take j):=by
        rw [OJ (by omega) (by omega) (by omega)];simp
      have e1:nj c (j:Int)=bif b then(bif(c.take j).any (fun q=>kl q.Name c[j].Name) then some (.inr (.inl 7)) else(bif(v !=0) then some (.inr (.inl v)) else some (.inl ((j+1:Nat):Int)))) else some (.inr (.inl 6)):=by
        unfold nj;rw [fm hj,cond_true,cQ hj,aN,n1,aN,Bm,aN,hf,aN,hv,aN,bK (by omega)];cases b<;>rfl
      have e2:pT c (j:Int)=bif b then(bif(c.take j).any (fun q=>kl q.Name c[j].Name) then some (.inr (.inl 7)) else(bif(v !=0) then some (.inr (.inl v)) else some (.inl ((j+1:Nat):Int)))) else some (.inr (.inl 6)):=by
        rw [Mu] at hv;unfold pT;rw [fm hj,cond_true,cQ hj,aN,n2,aN,ang (by omega) (by omega),aN,bK (by omega)];cases b with
        |false=>rfl
        |true=>
          cases(c.take j).any (fun q=>kl q.Name c[j].Name) with
          |true=>rfl
          |false=>
            rw [show(!true)=false from rfl,cond_false,cond_true,cond_false,cond_false,Sum.elim_inr,fe]
            revert hv;cases decide (c[j].fh<5) with
            |true=>intro hv;cases hv;rfl
            |false=>
            cases decide (300<c[j].fh) with
            |true=>intro hv;cases hv;rfl
            |false=>
            cases decide (c[j].gg<c[j].fh) with
            |true=>intro hv;cases hv;rfl
            |false=>
            cases decide (600<c[j].gg) with
            |true=>intro hv;cases hv;rfl
            |false=>
            cases decide (c[j].fK<0) with
            |true=>intro hv;cases hv;rfl
            |false=>
            cases decide (200<c[j].fK) with
            |true=>intro hv;cases hv;rfl
            |false=>
            cases decide (c[j].gP<0) with
            |true=>intro hv;cases hv;rfl
            |false=>
            cases decide (1000<c[j].gP) with
            |true=>intro hv;cases hv;rfl
            |false=>
            cases decide (600<(jg c[j]).2) with
            |true=>intro hv;cases hv;rfl
            |false=>
              intro hv;have Bp:xI c[j]=some v:=hv;simp only [cond_false];rw [Bp,aN];cases(v !=0)<;>rfl
      rw [e1,e2];cases b with
      |false=>exact .inr ⟨_,rfl,rfl,_,rfl,by omega⟩
      |true=>
        cases(c.take j).any (fun q=>kl q.Name c[j].Name) with
        |true=>exact .inr ⟨_,rfl,rfl,_,rfl,by omega⟩
        |false=>
          by_cases h0:v=0
          · subst h0
            exact .inl ⟨rfl,rfl,fun _=>ec rfl⟩
          · rw [show(v !=0)=true by simp [h0]]
            exact .inr ⟨_,rfl,rfl,_,rfl,h0⟩) (by
      unfold nj pT;rw [fX];exact⟨rfl,rfl⟩)
    rw [show((0:Nat):Int)=0 from rfl] at h1 h2
    rw [h1,h2,aN];rcases h3 with⟨rfl,h3⟩|⟨v,rfl,hv⟩
    · refine⟨0,rfl,rfl,fun _=>⟨by omega,fun p hp=>?_⟩⟩
      obtain⟨j,hj,rfl⟩:=List.getElem_of_mem hp;exact h3 j hj hj
    · exact⟨v,rfl,rfl,fun h=>absurd h hv⟩
def HF (s:Sp):Bool:=decide (s.b≤s.a)
def W0 (b:Bx):Bool:=HF b.x||(HF b.y||HF b.z)
def uV (s:Sp) (lo hi:Int):Bool:=decide (lo≤min s.a s.b)&&decide (max s.a s.b≤hi)
def A1 (d:Df):Int:=
  bif decide (d.k<1)||decide (6<d.k) then 10
  else bif W0 d.b then 19
  else bif !uV d.b.x (-600) 600||(!uV d.b.y (-600) 600||!uV d.b.z 0 20000) then 9 else 0
def MA (s:Sp) (n:Int):Sp:=⟨IntKind.i64.wrap (s.a -n),IntKind.i64.wrap (s.b -n)⟩
def HG {α:Type} (f:α→Int):List α→Int
  |[]=>0
  |a::l=>if f a=0 then HG f l else f a
def W4 (l:List Df):Int:=if 64<l.length then 4 else HG A1 l
def W5 (l:List Df):Prop:=∀d,d∈l→d.ok
theorem W5.at {l:List Df} (h:W5 l) {k:Nat} (hk:k<l.length):(l[k]).ok:=h _ (List.getElem_mem hk)
def ya (b q:Bx):Bx:=⟨MA b.x q.x.a,MA b.y q.y.a,MA b.z q.z.a⟩
def b3 (b:Bx):Nat→Sp
  |0=>b.x
  |1=>b.y
  |_=>b.z
def okB (b:Bx):Prop:=∀i,i<3→uV (b3 b i) (-1099511627776) 1099511627776=true
instance(b:Bx):Decidable (okB b):=inferInstanceAs (Decidable (∀i,i<3→_))
theorem W6 (d:Df):t_ d=A1 d:=by
  unfold t_ A1 cU W0 uV oV sK HF
  grind
theorem W7 {α:Type} (f:α→Int):∀l:List α,HG f l=(l.find? (fun e=>f e !=0)).elim 0 f
  |[]=>rfl
  |a::l=>by
    rw [HG,List.find?_cons];by_cases h:f a=0
    · simp [h,W7 f l]
    · have h':(f a !=0)=true:=by simpa using h
      rw [if_neg h,h'];rfl
theorem Er {l:List Df} (hl:l.length≤9223372036854775807):j_ l=some (W4 l):=by
  unfold j_ W4;by_cases h:64<l.length
  · rw [if_pos h,decide_eq_true (by omega),cond_true]
  · have:=Wy (step:=fun q=>qx l q) l (fun j=>((j:Nat):Int)) (fun e=>A1 e !=0) (fun e=>κ (A1 e)) (ι ()) (by
      intro j hj hp;unfold qx;rw [fm hj,cQ hj,cond_true,aN,W6,hp,cond_false,bK (by omega)]) (by
      intro j hj hp;unfold qx;rw [fm hj,cQ hj,cond_true,aN,W6,hp,cond_true]) (by
      unfold qx;rw [fX,cond_false])
    rw [show((0:Int))=((0:Nat):Int) from rfl,this,W7,if_neg h,decide_eq_false (by omega),cond_false,aN]
    cases l.find? (fun e=>A1 e !=0)<;>rfl
structure W8 (b:Bx):Prop where
  x:-600≤b.x.a∧b.x.a<b.x.b∧b.x.b≤600
  y:-600≤b.y.a∧b.y.a<b.y.b∧b.y.b≤600
  z:0≤b.z.a∧b.z.a<b.z.b∧b.z.b≤20000
  w:b.x.b -b.x.a≤600∧b.y.b -b.y.a≤600
theorem ani {b:Bx} (hx:-1099511627776≤min b.x.a b.x.b∧max b.x.a b.x.b≤1099511627776) (hy:-1099511627776≤min b.y.a b.y.b∧max b.y.a b.y.b≤1099511627776) (hz:-1099511627776≤min b.z.a b.z.b∧max b.z.a b.z.b≤1099511627776):okB b:=by
  intro i hi
  match i,hi with
  |0,_=>simp [b3,uV,hx]
  |1,_=>simp [b3,uV,hy]
  |2,_=>simp [b3,uV,hz]
theorem W8.ok {b:Bx} (h:W8 b):okB b:=ani (by have:=h.x;omega) (by have:=h.y;omega) (by have:=h.z;omega)
end Go.Proofs.YtccnpbnokndeeaaGreatDoor
end
