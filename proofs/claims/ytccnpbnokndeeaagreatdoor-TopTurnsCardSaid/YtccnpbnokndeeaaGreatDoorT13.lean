/- Texts for the law: P11, P12, P13, P14, Ab50. -/
import Derived.Test.YtccnpbnokndeeaaGreatDoorT12
noncomputable section
open Option renaming bind→β
open Sum renaming inr→ι,inl→κ
namespace Go.Proofs.YtccnpbnokndeeaaGreatDoor
open Go Go.Ab
set_option maxRecDepth 20000
set_option maxHeartbeats 1000000
section
variable{l:List aV} {d:List Df} {c:List bh} {s:cS} {vr:da}
theorem aoM {N:List bq} (h:N.length≤1000):bH (DN N) (fun _=>True):=by
 unfold DN Hh Hg;refine aH (Q:=fun _=>True) (aH (Q:=fun _=>True) (aH (Q:=fun _=>True) ?_ (fun z _=>xL (fun _ _=>aO trivial) (fun _ _=>aO trivial))) (fun _ _=>aO trivial)) (fun _ _=>aO trivial);refine di N.length (fun q:Int=>q) (fun _=>True) (fun v j _ hv hj=>?_) (fun v _ hv=>?_) trivial rfl (Nat.zero_le _)
 ·unfold AH;subst hv;exact ei rfl hj (aH (dg hj) (fun _ _=>bl (fun _=>aO (.inr ⟨_,rfl,trivial⟩)) (fun _=>aO (.inl ⟨_,rfl,trivial,bK (by omega)⟩))))
 ·unfold AH;exact ea hv trivial
def u7 (l:List aV) (d:List Df) (c:List bh) (s:cS) (vr:da) (frame:aJ) (e:Int) (R:List Int) (F:List (List bq)):Prop:=∀(q g:Int),aC R q=some g→0≤g→∃N,aC F q=some N∧H6 l d c s vr (rc frame 3 q (q+e)) N g
theorem X6 {α:Type} {R S:List α} {q:Int} {a:α} (h:aC R q=some a):aC (R++S) q=some a:=by
 obtain⟨h0,h1⟩:=pz h;obtain⟨j,rfl⟩:=Int.eq_ofNat_of_zero_le h0;rw [Int.toNat_natCast] at h1;rw [BM,List.getElem?_append_left (List.getElem?_eq_some_iff.1 h1).1];exact h1
theorem X7 {α:Type} (R:List α) (a:α):aC (R++[a]) ((R.length:Nat):Int)=some a:=by
 rw [BM,List.getElem?_append_right (Nat.le_refl _),Nat.sub_self];rfl
theorem aoN (h:Cx l d c s vr) (hd:d.length≤1000) {frame:aJ} (hf:tj frame) {e:Int} (he:0≤e∧e≤2000):bH (bb (fun q:List Int×List (List bq)×Int=>sZ l d c frame s vr e q.1 q.2.1 q.2.2) ([],[],0)) (fun w=>w.1.length≤2000∧u7 l d c s vr frame e w.1 w.2):=by
 obtain⟨hX,hY⟩:=hf;have MV:=(uZ h.ti).2.2.1;refine p_ (step:=fun q:List Int×List (List bq)×Int=>sZ l d c frame s vr e q.1 q.2.1 q.2.2) (fun q=>((((q.1.length:Nat):Int)=q.2.2∧((q.2.1.length:Nat):Int)=q.2.2)∧q.2.2≤1300)∧u7 l d c s vr frame e q.1 q.2.1) (fun q=>(1400 -q.2.2).toNat) (fun w:List Int×List (List bq)=>w.1.length≤2000∧u7 l d c s vr frame e w.1 w.2) (fun q hq=>?_) _ ⟨⟨⟨rfl,rfl⟩,by decide⟩,fun q g hg=>by have:=pz hg;simp at this⟩;obtain⟨R,F,p⟩:=q;obtain⟨⟨⟨q1,X8⟩,q2⟩,q3⟩:=hq;dsimp only at q1 X8 q2 q3;unfold sZ;dsimp only;rw [bu (n:=p+e) (by omega) (by omega),bu (n:=frame.Y.b -frame.Y.a) (by omega) (by omega),bu (n:=p+1) (by omega) (by omega)]
 have add:∀g N,(0≤g→H6 l d c s vr (rc frame 3 p (p+e)) N g)→p≤1299→∃x':List Int×List (List bq)×Int,β (cK 8 R ([g])) (fun l1=>(β (cK 24 F ([N])) (fun l2=>(some (κ (l1,l2,p+1)):Option ((List Int×List (List bq)×Int)⊕(List Int×List (List bq)))))))=some (.inl x')∧(((((x'.1.length:Nat):Int)=x'.2.2∧((x'.2.1.length:Nat):Int)=x'.2.2)∧x'.2.2≤1300)∧u7 l d c s vr frame e x'.1 x'.2.1)∧(1400 -x'.2.2).toNat<(1400 -p).toNat:=by
  intro g N hg hp;refine⟨(R++[g],F++[N],p+1),?_,⟨⟨⟨?_,?_⟩,?_⟩,fun q a ha h0=>?_⟩,?_⟩
  ·rw [jT (by simp only [List.length_cons,List.length_nil];omega) (by simp only [List.length_cons,List.length_nil];omega),aN,jT (by simp only [List.length_cons,List.length_nil];omega) (by simp only [List.length_cons,List.length_nil];omega)];rfl
  ·dsimp only;rw [List.length_append,List.length_cons,List.length_nil];omega
  ·dsimp only;rw [List.length_append,List.length_cons,List.length_nil];omega
  ·dsimp only;omega
  ·rcases H3 ha with ha|⟨rfl,rfl⟩
   ·obtain⟨N',n1,n2⟩:=q3 q a ha h0;exact⟨N',X6 n1,n2⟩
   ·rw [q1];refine⟨N,?_,hg h0⟩;rw [←X8];exact X7 F N
  ·dsimp only;omega
 have no:∀{P:Prop},(0:Int)≤-1→P:=fun q=>absurd q (by decide)
 by_cases hle:p+e≤frame.Y.b -frame.Y.a
 ·rw [decide_eq_true hle,cond_true,show(s.dq !=0)=true by simp;omega,cond_true]
  cases(Int.tmod p s.dq==0) with
  |false=>
   rw [cond_false];exact .inl (add (-1) [] no (by omega))
  |true=>
   rw [cond_true,fe]
   have qX:qJ frame p (p+e)=rc frame 3 p (p+e):=by
    unfold qJ;rw [bu (n:=frame.Y.a+p) (by omega) (by omega),bu (n:=frame.Y.a+(p+e)) (by omega) (by omega)];rfl
   rw [qX];obtain⟨b,b1,b2⟩:=aoK (c:=c) (s:=s) (vr:=vr) h.low hd (rc frame 3 p (p+e));rw [b1,aN];cases hb:(b.2.2==0) with
   |false=>
    rw [cond_false];exact .inl (add (-1) [] no (by omega))
   |true=>
    have eb:=b2 (by simpa using hb);obtain⟨t,t1,t2,_⟩:=id eb;obtain⟨hv,bx,_⟩:=aoM (N:=b.1) (by rw [t1];omega);rw [cond_true,bx,aN];cases hv with
    |false=>
     rw [cond_false];exact .inl (add (-1) [] no (by omega))
    |true=>
     rw [cond_true];exact .inl (add b.2.1 b.1 (fun _=>eb) (by omega))
 ·rw [decide_eq_false hle];exact .inr ⟨_,rfl,by dsimp only;omega,q3⟩
structure X9 (l:List aV) (d:List Df) (c:List bh) (s:cS) (vr:da) (frame:aJ) (x:cT) (st:List (List (List bq))):Prop where
 len:x.aT=frame.Y.b -frame.Y.a
 kerf:x.bj=s.bj
 sm:EE x
 A6:∀i R,aC x.eT i=some R→∀e,aC x.cY i=some e→∃F,aC st i=some F∧u7 l d c s vr frame e R F
 A9:∀(k:Nat) (hk:k<x.dF.length),x.dF[k]=U (vr.dF*V0 l (rc frame 3 k (k+1)))
 ly:∀(k:Nat) (hk:k<x.cO.length),x.cO[k]=U (vr.cO*V0 l (rc frame 3 k (k+1)))
theorem X_ (h:Cx l d c s vr) (r:aJ):AI l r=some (V0 l r):=by
 unfold AI;rw [AS,length_eq h.fD h.jR,aN,rQ h.fD h.jR];rfl
theorem aoO (h:Cx l d c s vr) (hd:d.length≤1000) (hc:c.length≤6) {frame:aJ} (hf:tj frame):bH (xr l d c frame s vr) (fun r=>X9 l d c s vr frame r.1 r.2):=by
 unfold xr;refine aH (aoD hc h.k9 h.M6) (fun hv hhv=>?_);obtain⟨h1,h2⟩:=hhv;obtain⟨hX,hY⟩:=id hf
 have A:bH (bb (fun q:List (List (List bq))×Int×List (List Int)×List Int×List Int=>nZ l d c frame s vr hv q.1 q.2.1 q.2.2.1 q.2.2.2.1 q.2.2.2.2) ([],0,[],[],[])) (fun w=>(w.2.2.1=[]∧w.2.2.2=[])∧(w.2.1.length≤12∧∀e∈w.2.1,e.length≤2000)∧∀i R,aC w.2.1 i=some R→∀e,aC hv i=some e→∃F,aC w.1 i=some F∧u7 l d c s vr frame e R F):=by
  refine di hv.length (fun q:List (List (List bq))×Int×List (List Int)×List Int×List Int=>q.2.1) (fun q=>(q.2.2.2.1=[]∧q.2.2.2.2=[])∧((((q.2.2.1.length:Nat):Int)=q.2.1∧((q.1.length:Nat):Int)=q.2.1)∧∀e∈q.2.2.1,e.length≤2000)∧∀i R,aC q.2.2.1 i=some R→∀e,aC hv i=some e→∃F,aC q.1 i=some F∧u7 l d c s vr frame e R F) (fun q j hI hq hj=>?_) (fun q hI hq=>?_) ⟨⟨rfl,rfl⟩,⟨⟨rfl,rfl⟩,fun e he=>by cases he⟩,fun i R hR=>by have:=pz hR;simp at this⟩ rfl (Nat.zero_le _)
  ·obtain⟨st,v,G,a,b⟩:=q;obtain⟨i1,⟨⟨i2,qY⟩,i3⟩,i4⟩:=hI;dsimp only at i1 i2 qY i3 i4 hq;subst hq;unfold nZ;refine ei rfl hj ?_;rw [cQ hj,aN,bK (by omega)];refine aH (Q:=fun w=>∃R F,w=(st++[F],G++[R])∧R.length≤2000∧u7 l d c s vr frame hv[j] R F) (aH (aoN h hd hf (h2 _ (List.getElem_mem hj))) (fun w hw=>aH (ny (by simp only [List.length_cons,List.length_nil];omega) (by simp only [List.length_cons,List.length_nil];omega)) ?_)) ?_
   ·rintro a rfl;refine aH (ny (by simp only [List.length_cons,List.length_nil];omega) (by simp only [List.length_cons,List.length_nil];omega)) ?_;rintro b rfl;exact aO ⟨_,_,rfl,hw⟩
   ·rintro w ⟨R,F,rfl,r1,r2⟩;refine aO (.inl ⟨_,rfl,⟨i1,⟨⟨by dsimp only;rw [List.length_append,List.length_cons,List.length_nil];omega,by dsimp only;rw [List.length_append,List.length_cons,List.length_nil];omega⟩,fun e he=>?_⟩,fun i R' u6 e he=>?_⟩,rfl⟩)
    ·rcases List.mem_append.1 he with he|he
     ·exact i3 e he
     ·rw [List.mem_singleton] at he;rw [he];exact r1
    ·dsimp only at u6⊢;rcases H3 u6 with u6|⟨rfl,rfl⟩
     ·obtain⟨F',f1,f2⟩:=i4 i R' u6 e he;exact⟨F',X6 f1,f2⟩
     ·rw [i2,cQ hj] at he;cases he;refine⟨F,?_,r2⟩;rw [i2,←qY];exact X7 st F
  ·obtain⟨st,v,G,a,b⟩:=q;obtain⟨i1,⟨⟨i2,qY⟩,i3⟩,i4⟩:=hI;dsimp only at i1 i2 i3 i4 hq;subst hq;unfold nZ;exact ea rfl ⟨i1,⟨by dsimp only;omega,i3⟩,i4⟩
 refine aH A ?_;rintro⟨st,G,a,b⟩ ⟨⟨w1,w2⟩,⟨w3,w4⟩,w5⟩;dsimp only at w1 w2 w3 w4 w5;subst w1 w2;obtain⟨n,hn⟩:=Int.eq_ofNat_of_zero_le (show 0≤frame.Y.b -frame.Y.a by omega)
 have B:bH (bb (fun q:Int×List (List Int)×List Int×List Int=>uI l frame vr q.1 q.2.1 q.2.2.1 q.2.2.2) (0,G,[],[])) (fun w=>w.1=G∧(w.2.1.length≤1200∧w.2.2.length≤1200)∧(∀(k:Nat) (hk:k<w.2.1.length),w.2.1[k]=U (vr.dF*V0 l (rc frame 3 k (k+1))))∧∀(k:Nat) (hk:k<w.2.2.length),w.2.2[k]=U (vr.cO*V0 l (rc frame 3 k (k+1)))):=by
  refine di n (fun q:Int×List (List Int)×List Int×List Int=>q.1) (fun q=>q.2.1=G∧(((q.2.2.1.length:Nat):Int)=q.1∧((q.2.2.2.length:Nat):Int)=q.1)∧(∀(k:Nat) (hk:k<q.2.2.1.length),q.2.2.1[k]=U (vr.dF*V0 l (rc frame 3 k (k+1))))∧∀(k:Nat) (hk:k<q.2.2.2.length),q.2.2.2[k]=U (vr.cO*V0 l (rc frame 3 k (k+1)))) (fun q j hI hq hj=>?_) (fun q hI hq=>?_) ⟨rfl,⟨rfl,rfl⟩,(fun k hk=>absurd hk (Nat.not_lt_zero k)),(fun k hk=>absurd hk (Nat.not_lt_zero k))⟩ rfl (Nat.zero_le _)
  ·obtain⟨v,G',C,D⟩:=q;obtain⟨i1,⟨i2,qY⟩,i3,i4⟩:=hI;dsimp only at i1 i2 qY i3 i4 hq;subst hq;unfold uI;dsimp only
   have qX:qJ frame (j:Int) (((j+1:Nat):Int))=rc frame 3 j (j+1):=by
    unfold qJ;rw [bu (n:=frame.Y.a+(j:Int)) (by omega) (by omega),bu (n:=frame.Y.a+((j+1:Nat):Int)) (by omega) (by omega)];rfl
   rw [bu (n:=frame.Y.b -frame.Y.a) (by omega) (by omega),decide_eq_true (by omega),cond_true,bK (by omega),fe,qX,X_ h,aN];refine aH (ny (by simp only [List.length_cons,List.length_nil];omega) (by simp only [List.length_cons,List.length_nil];omega)) ?_;rintro C' rfl;refine aH (ny (by simp only [List.length_cons,List.length_nil];omega) (by simp only [List.length_cons,List.length_nil];omega)) ?_;rintro D' rfl;have f1:C.length=j:=by omega
   have f2:D.length=j:=by omega
   exact aO (.inl ⟨_,rfl,⟨i1,⟨by dsimp only;rw [List.length_append,List.length_cons,List.length_nil];omega,by dsimp only;rw [List.length_append,List.length_cons,List.length_nil];omega⟩,H5 (f:=fun k=>U (vr.dF*V0 l (rc frame 3 k (k+1)))) i3 (by rw [f1]),H5 (f:=fun k=>U (vr.cO*V0 l (rc frame 3 k (k+1)))) i4 (by rw [f2])⟩,rfl⟩)
  ·obtain⟨v,G',C,D⟩:=q;obtain⟨i1,⟨i2,qY⟩,i3,i4⟩:=hI;dsimp only at i1 i2 qY i3 i4 hq;subst hq;unfold uI;dsimp only;rw [bu (n:=frame.Y.b -frame.Y.a) (by omega) (by omega),decide_eq_false (by omega)];exact aO ⟨_,rfl,i1,⟨by dsimp only;omega,by dsimp only;omega⟩,i3,i4⟩
 refine aH B ?_;rintro⟨G',C,D⟩ ⟨v1,⟨v2,v3⟩,v4,v5⟩;dsimp only at v1 v2 v3 v4 v5;subst v1;refine aO ⟨bu (by omega) (by omega),rfl,⟨by dsimp only;omega,by dsimp only;omega,fun e he=>by have:=w4 e he;omega,by dsimp only;omega,by dsimp only;omega⟩,w5,v4,v5⟩
theorem aoQ (h:Cx l d c s vr) {frame:aJ} (hf:tj frame) {x:cT} {st:List (List (List bq))} (hx:X9 l d c s vr frame x st) {cs:List de} {v val ee:Int} (ln:qV x) (fv:tg x 0 cs v) (wv:U val=U v):
  bH (β (bb (fun q:List Sp×List (List bq)×Int=>uL frame (x,st) (cs,val,ee) q.1 q.2.1 q.2.2) ([],[],0)) (fun w=>xn frame 3 s.bj w.1 w.2)) (fun r=>r.2=0→H6 l d c s vr frame r.1 val):=by
 obtain⟨hX,hY⟩:=id hf;have Ng:=uZ h.ti;have hlen:=ln.len;obtain⟨f1,f2⟩:=XR ln fv hlen.1
 have ch:∀q:de,∃t:PT,o_ x q→∃F,aC st q.fS=some F∧aC F q.At=some t.flat∧t.flat.length≤127∧t.ok s.bj (GB l d c s vr.dE) (rc frame 3 q.At (dG x q))∧U (o9 x q)=U (t.val s.bj vr.dF vr.cO (V0 l) (gv l d c s vr) (rc frame 3 q.At (dG x q))):=by
  intro q;by_cases hq:o_ x q
  ·obtain⟨R,g,e,g1,g2,g3,g4,g5⟩:=H4 ln hq;have hg:=hq.A6;rw [g3] at hg;obtain⟨F,k1,k2⟩:=hx.A6 _ _ g1 _ g4;obtain⟨N,k3,t,t1,t2,t3,t4⟩:=k2 _ _ g2 hg;subst t1;rw [←g5] at t3 t4;rw [g3];exact⟨t,fun _=>⟨F,k1,k3,t2,t3,t4⟩⟩
  ·exact⟨.leaf 0 0,fun q=>absurd q hq⟩
 obtain⟨T,hT⟩:=Classical.axiomOfChoice ch;have hk:x.bj=s.bj:=hx.kerf;have hA:(b8 frame 3)=frame.Y:=rfl
 have tree:M5 x frame 3 vr.dF vr.cO (V0 l) (gv l d c s vr) (GB l d c s vr.dE) T:=by
  refine⟨ln,.inr rfl,by rw [hA];omega,by rw [hA,hx.len];omega,fun p q a b e=>?_,fun p q a b e=>?_,fun q hq=>?_⟩
  ·exact H2 (.inr rfl) hx.A9 p q a b (by rw [ln.cl];exact e)
  ·exact H2 (.inr rfl) hx.ly p q a b (by rw [ln.dl];exact e)
  ·obtain⟨F,_,_,_,t3,t4⟩:=hT q hq;rw [hk];exact⟨t4.symm,t3⟩
 obtain⟨c1,c2,c3⟩:=XQ tree fv (Int.le_refl _) hlen.1;rw [hA,Int.add_zero,hk] at c1 c2 c3;have lh:rc frame 3 0 x.aT=frame:=XP (.inr rfl) (by rw [hA,hx.len];omega);rw [lh] at c2 c3
 have lists:bH (bb (fun q:List Sp×List (List bq)×Int=>uL frame (x,st) (cs,val,ee) q.1 q.2.1 q.2.2) ([],[],0)) (fun w=>w=((cs.map (ic x frame.Y.a T)).map Prod.fst,(cs.map (ic x frame.Y.a T)).map fun q=>q.2.flat)):=by
  refine di cs.length (fun q:List Sp×List (List bq)×Int=>q.2.2) (fun q=>q.1=((cs.take q.2.2.toNat).map (ic x frame.Y.a T)).map Prod.fst∧q.2.1=((cs.take q.2.2.toNat).map (ic x frame.Y.a T)).map fun q=>q.2.flat) (fun q j hI hq hj=>?_) (fun q hI hq=>?_) ⟨rfl,rfl⟩ rfl (Nat.zero_le _)
  ·obtain⟨A,P,v⟩:=q;obtain⟨i1,i2⟩:=hI;dsimp only at i1 i2 hq;subst hq;rw [Int.toNat_natCast] at i1 i2;unfold uL;refine ei rfl hj ?_;have pc:=f2 _ (List.getElem_mem hj);obtain⟨R,g,e,g1,g2,g3,g4,g5⟩:=H4 ln pc;obtain⟨F,k1,k2,k3,_⟩:=hT _ pc;have p1:=pc.a0;have p2:=pc.fit;have p3:=pc.pos
   have EK:A.length≤2000∧P.length≤2000:=by
    rw [i1,i2];simp only [List.length_map,List.length_take];omega
   rw [cQ hj,aN,g4,aN,fe,bu (n:=cs[j].At+e) (by omega) (by omega),←g5]
   have qX:(qJ frame cs[j].At (dG x cs[j])).Y=⟨frame.Y.a+cs[j].At,frame.Y.a+dG x cs[j]⟩:=by
    unfold qJ;rw [bu (n:=frame.Y.a+cs[j].At) (by omega) (by omega),bu (n:=frame.Y.a+dG x cs[j]) (by omega) (by omega)]
   rw [qX,jT (by simp only [List.length_cons,List.length_nil];omega) (by simp only [List.length_cons,List.length_nil];omega),aN,k1,aN,k2,aN];unfold Hi;rw [jT (by simp only [List.length_cons,List.length_nil];omega) (by simp only [List.length_cons,List.length_nil];omega),aN,aN,bK (by omega)];refine aO (.inl ⟨_,rfl,⟨?_,?_⟩,rfl⟩)
   ·dsimp only;rw [Int.toNat_natCast,List.take_succ_eq_append_getElem hj,List.map_append,List.map_append,i1];rfl
   ·dsimp only;rw [Int.toNat_natCast,List.take_succ_eq_append_getElem hj,List.map_append,List.map_append,i2];rfl
  ·obtain⟨A,P,v⟩:=q;obtain⟨i1,i2⟩:=hI;dsimp only at i1 i2 hq;subst hq;rw [Int.toNat_natCast,List.take_length] at i1 i2;unfold uL;exact ea rfl (by rw [i1,i2])
 refine aH lists ?_;rintro w rfl;dsimp only
 have hb:=Nf (axis:=3) (kerf:=s.bj) (B:=frame.Y.b) (M:=127) (cs.map (ic x frame.Y.a T)) frame.Y.a (fun q hq=>by
  obtain⟨u,hu,rfl⟩:=List.mem_map.1 hq;obtain⟨_,_,_,k3,_⟩:=hT u (f2 u hu);exact k3)
 rw [List.length_map] at hb;refine Ex (XN (L:=cs.map (ic x frame.Y.a T)) (.inr rfl) (Nd hf) Ng.1 (by rw [hA];omega) (by rw [hA];omega) (by rw [List.length_map];omega) (by rw [hA];exact c1) (by rw [hA];omega)) (fun rv Nh e0=>?_);obtain⟨r1,r2⟩:=Nh e0;rw [hA] at r1;exact⟨_,r1,r1▸r2,c3,wv.trans c2.symm⟩
theorem aoR (hl:lY l) (hd:d.length≤1000) (hc:c.length≤6) (frame:aJ):bH (s8 l d c frame s vr) (fun r=>r.2.2=0→(lX l∧jL l=some 0)∧r.1.Frame=frame∧bH (xz l d c r.1 s vr) (fun y=>y.2=0∧y.1.Value=r.2.1)):=by
 unfold s8;refine aH (aoF hl hd frame) (fun e he=>bl (fun e0=>aO (fun q=>absurd q (by simpa using e0))) (fun e0=>?_));obtain⟨h,hf⟩:=he (ke e0);refine aH (aoO h hd hc hf) (fun lv hx=>?_);obtain⟨x,st⟩:=lv;dsimp only at hx⊢;refine aH (XL hx.sm) (fun bv xN=>bl (fun e0=>aO (fun q=>absurd q (by simpa using e0))) (fun e0=>?_));obtain⟨ln,v,fv,wv⟩:=xN (ke e0);obtain⟨cs,val,ee⟩:=bv;dsimp only at fv wv⊢;obtain⟨r,r1,r2⟩:=aoQ (ee:=ee) h hf hx ln fv wv;obtain⟨w,w1,w2⟩:=ah r1;rw [w1,aN,w2,aN];refine bl (fun e0=>aO (fun q=>absurd q (by decide))) (fun e0=>?_);obtain⟨t,t1,t2,t3,t4⟩:=r2 (ke e0);rw [MM h.fD h.jR,aN,X_ h,aN];refine aO fun _=>⟨⟨h.fD,h.jR⟩,rfl,Ex (aow (p:=⟨frame,r.1⟩) (t:=t) h (Nd hf) t1 t2 t3) fun y hy=>⟨hy.1,?_⟩⟩
 rw [hy.2];dsimp only;have hk:=(uZ h.ti).1;have ve:t.val s.bj vr.dF vr.cO (V0 l) (gv l d c s vr) frame=_:=Nb (pt:=fun k r=>(bo l d c s vr.dE k r).2.1) (bv:=fun k r=>d_ r.X r.Y (bo l d c s vr.dE k r).1 l 0) (dz:=fun k r=>nz l s r (bo l d c s vr.dE k r).1) hk (fun r k a i1 i2 i3=>aot hk i1 i2 i3) t frame (anF hf) t3;rw [ve] at t4;refine Eq.trans ?_ (jF t4.symm ((eZ _).trans (EC vr.dF (eZ (iz l -V0 l frame)))).symm);refine congrArg U ?_;generalize t.sm s.bj (fun k r=>(bo l d c s vr.dE k r).2.1) (fun _=>0) frame=a1;generalize t.sm s.bj (fun k r=>d_ r.X r.Y (bo l d c s vr.dE k r).1 l 0) (fun _=>0) frame=a2;generalize t.sm s.bj (fun k r=>nz l s r (bo l d c s vr.dE k r).1) (V0 l) frame=a3;rw [show iz l -a2 -a3=(V0 l frame -a2 -a3)+(iz l -V0 l frame) by omega,Int.mul_add vr.dF]
 omega
end
theorem mod_mod (q:Int):Int.tmod (U (Int.tmod q 4+4)) 4=Int.tmod (U (Int.tmod (Int.tmod (U (Int.tmod q 4+4)) 4) 4+4)) 4:=by
 obtain⟨h1,h2⟩:=Ey q;generalize Int.tmod (U (Int.tmod q 4+4)) 4=r at*
 have:r=0∨r=1∨r=2∨r=3:=by omega
 rcases this with rfl|rfl|rfl|rfl<;>decide
theorem aoS {s:eA} {q m:Int} (hm:Int.tmod (U (Int.tmod q 4+4)) 4=Int.tmod (U (Int.tmod m 4+4)) 4):uh s q=uh s m:=by
 have p:∀x,ub x q=ub x m:=fun x=>by unfold ub;rw [hm]
 have r:∀x,uc x q=uc x m:=fun x=>by unfold uc;simp only [p]
 have d2:(fun a:Int×Df=>sP q a.1 a.2)=fun a=>sP m a.1 a.2:=funext fun a=>by unfold sP;rw [hm]
 have d:∀x,ua x q=ua x m:=by
  intro x;have d1:(fun a:Int×List Df=>sQ x q a.1 a.2)=fun a=>sQ x m a.1 a.2:=funext fun a=>by unfold sQ;rw [d2]
  unfold ua;rw [d1]
 have s1:(fun a:Int×List cw=>sR s q a.1 a.2)=fun a=>sR s m a.1 a.2:=funext fun a=>by unfold sR;simp only [r]
 unfold uh;rw [d,s1]
theorem aoT (s:eA) (q lim most:Int):lU s q lim most=lU s (Int.tmod (U (Int.tmod q 4+4)) 4) lim most:=by
 unfold lU;rw [aoS (mod_mod q)]
theorem aoU {v:b7} (h:mu v):bH (Db v) (fun _=>True):=by
 have hl:=h.low;unfold Db;refine aH (MS v ⟨by omega,by omega⟩) (fun w hw=>bl (fun _=>aO trivial) (fun h0=>?_));have J9:=hw.len;have h0:w.Rows.length≠0:=by simpa using h0
 refine aH (fy (Int.le_refl 0) (by omega)) (fun e _=>aH (Q:=fun _=>True) ?_ (fun x _=>rS (aO trivial)));refine di w.Rows.length (fun q:Int×Sp=>q.1) (fun _=>True) (fun q j _ hq hj=>?_) (fun q _ hq=>?_) trivial rfl (Nat.zero_le _)
 ·unfold zY;refine ei hq hj ?_;rw [hq,bK (by omega)];exact aH (dg hj) (fun _ _=>bl (fun _=>aO (.inl ⟨_,rfl,trivial,rfl⟩)) (fun _=>aO (.inl ⟨_,rfl,trivial,rfl⟩)))
 ·unfold zY;exact ea hq trivial
theorem aoV {l:List aV} (hl:lY l):bH (oZ l) (fun _=>True):=by
 obtain⟨e,a1,a2⟩:=Ek l hl;unfold oZ GV rJ;rw [xC,a1,aN]
 have key:∀m:List aV,m.length≤1000→(∀e∈m,mu e.cn)→bH (bb (fun q:Int×aJ=>wM m q.1 q.2) (0,⟨⟨0,0⟩,⟨0,0⟩⟩)) (fun _=>True):=by
  intro m hm hs;refine di m.length (fun q:Int×aJ=>q.1) (fun _=>True) (fun q j _ hq hj=>?_) (fun q _ hq=>?_) trivial rfl (Nat.zero_le _)
  ·unfold wM;refine ei hq hj ?_;rw [hq,bK (by omega)];refine aH (dg hj) ?_;rintro e rfl;exact aH (aoU (hs _ (List.getElem_mem hj))) (fun _ _=>rS (aO (.inl ⟨_,rfl,trivial,rfl⟩)))
  ·unfold wM;exact ea hq trivial
 refine aH (Q:=fun _=>True) (aH (Q:=fun _=>True) (aH (Q:=fun m:List aV=>m.length≤1000∧∀e∈m,mu e.cn) (bl (fun _=>aO ⟨Nat.zero_le _,fun e he=>by cases he⟩) (fun h0=>aO ?_)) (fun m hm=>key m hm.1 hm.2)) (fun _ _=>aO trivial)) (fun _ _=>aO trivial);have h:=a2 (ke h0);have:=h.len;exact⟨by omega,fun e he=>(Eo h e he).1⟩
section
variable{s:eA} {c:List bh} {sw:cS} {vr:da} {lim most:Int}
structure Ch (s:eA) (c:List bh) (sw:cS) (vr:da) (lim most:Int) (k:Nat) (h:fi) (pv:List aV×List Df×Int) (f:aJ):Prop where
 q:h.oL=(k:Int)
 place:lU s (k:Int) lim most=some pv
 ok:pv.2.2=0
 frame:oZ pv.1=some f
 pf:h.Pattern.Frame=f
 fD:lX pv.1
 jR:jL pv.1=some 0
 df:pv.2.1.length=s.dm.length
 lz:Lz (s.bM.map fun r=>r.Z) pv.1
 val:bH (xz pv.1 pv.2.1 c h.Pattern sw vr) (fun y=>y.2=0∧y.1.Value=h.Value)
theorem aoW (hs:A5 s) (hc:c.length≤3):bH (qQ s c sw vr lim most) (fun r=>(r.2≠0→r.1=[])∧(r.2=0→r.1.length=4∧∀(k:Nat) (hk:k<r.1.length),∃pv f,Ch s c sw vr lim most k r.1[k] pv f)):=by
 unfold qQ;refine aH (Q:=fun z=>(∃e:Int,e≠0∧z=.inl (([]:List fi),e))∨∃l:List fi,z=.inr l∧l.length=4∧∀(k:Nat) (hk:k<l.length),∃pv f,Ch s c sw vr lim most k l[k] pv f) ?_ ?_
 ·refine di 4 (fun q:List fi×Int=>q.2) (fun q=>((q.1.length:Nat):Int)=q.2∧∀(k:Nat) (hk:k<q.1.length),∃pv f,Ch s c sw vr lim most k q.1[k] pv f) (fun q j hI hq hj=>?_) (fun q hI hq=>?_) ⟨rfl,fun k hk=>absurd hk (Nat.not_lt_zero k)⟩ rfl (Nat.zero_le _)
  ·obtain⟨L,v⟩:=q;obtain⟨i1,i2⟩:=hI;dsimp only at i1 i2 hq;subst hq;unfold k8;dsimp only;rw [decide_eq_true (by omega),cond_true];obtain⟨pv,p1,p2,p3,p4,p5⟩:=an9 s (j:Int) lim most hs;rw [p1,aN];refine bl (fun h=>aO (.inr ⟨_,rfl,.inl ⟨_,by simpa using h,rfl⟩⟩)) (fun h0=>?_);have h0:=ke h0;obtain⟨f,f1,_⟩:=aoV p2;rw [f1,aN];obtain⟨b,b1,b2⟩:=aoR (s:=sw) (vr:=vr) p2 (d:=pv.2.1) (by omega) (c:=c) (by omega) f;rw [b1,aN];refine bl (fun h=>aO (.inr ⟨_,rfl,.inl ⟨_,by simpa using h,rfl⟩⟩)) (fun h1=>?_);obtain⟨⟨c1,c2⟩,c3,c4⟩:=b2 (ke h1);have hL:L.length=j:=by omega
   refine aH (ny (by simp only [List.length_cons,List.length_nil];omega) (by simp only [List.length_cons,List.length_nil];omega)) ?_;rintro w rfl;refine aO (.inl ⟨_,rfl,⟨by dsimp only;rw [List.length_append,List.length_cons,List.length_nil,bK (by omega)];omega,fun k hk=>?_⟩,bK (by omega)⟩);dsimp only at hk⊢;rw [List.getElem_append];split
   ·exact i2 k _
   ·rename_i hn;rw [List.length_append,List.length_cons,List.length_nil] at hk;have e:k=j:=by omega
    subst e;obtain⟨d1,d2⟩:=p5 h0;refine⟨pv,f,?_⟩;simp only [List.getElem_singleton];exact⟨rfl,p1,h0,f1,c3,c1,c2,d1,d2,c4⟩
  ·obtain⟨L,v⟩:=q;obtain⟨i1,i2⟩:=hI;dsimp only at i1 i2 hq;subst hq;unfold k8;dsimp only;rw [decide_eq_false (by omega)];exact aO ⟨_,rfl,.inr ⟨L,rfl,by omega,i2⟩⟩
 ·rintro z (⟨e,he,rfl⟩|⟨L,rfl,h1,h2⟩)
  ·exact aO ⟨fun _=>rfl,fun h=>absurd h he⟩
  ·exact aO ⟨fun h=>absurd rfl h,fun _=>⟨h1,h2⟩⟩
theorem aoX {av:List fi×Int} (ha:qQ s c sw vr lim most=some av) (hl:av.2=0→av.1.length=4):bH (s_ s c sw vr lim most) (fun r=>r.2=av.2∧(av.2≠0→r.1.Value=0∧r.1.Pattern.br=[])∧(av.2=0→∃(k:Nat) (hk:k<av.1.length),r.1=av.1[k]∧∀(j:Nat) (hj:j<av.1.length),av.1[j].Value≤r.1.Value∧(j<k→av.1[j].Value<r.1.Value))):=by
 unfold s_;rw [ha,aN];refine bl (fun h=>aO ⟨rfl,fun _=>⟨rfl,rfl⟩,fun h0=>by rw [h0] at h;cases h⟩) (fun h0=>?_);have h0:=ke h0;have h4:=hl h0;obtain⟨L,e⟩:=av;dsimp only at h0 h4⊢
 have Bm:qa L 1 ((L.length:Nat):Int)=some ((L.drop 1).take 3):=by
  unfold qa;rw [h4];rfl
 rw [show aC L 0=some L[0] from cQ (j:=0) (by omega),aN,Bm,aN]
 have hlen:((L.drop 1).take 3).length=3:=by simp;omega
 refine aH (Q:=fun b=>∃(k:Nat) (hk:k<L.length),b=L[k]∧∀(j:Nat) (hj:j<L.length),L[j].Value≤b.Value∧(j<k→L[j].Value<b.Value)) ?_ (fun b hb=>aO ⟨h0.symm,fun h=>absurd h0 h,fun _=>hb⟩);refine di 3 (fun q:Int×fi=>q.1) (fun q=>∃(k:Nat) (hk:k<L.length),(k:Int)≤q.1∧q.2=L[k]∧∀(j:Nat) (hj:j<L.length),(j:Int)≤q.1→L[j].Value≤q.2.Value∧(j<k→L[j].Value<q.2.Value)) (fun q j hI hq hj=>?_) (fun q hI hq=>?_) ⟨0,by omega,Int.le_refl _,rfl,fun j hj hle=>?_⟩ rfl (Nat.zero_le _)
 ·obtain⟨v,b⟩:=q;obtain⟨k,hk,k1,k2,k3⟩:=hI;dsimp only at k1 k2 k3 hq;subst hq;unfold AJ;dsimp only
  have hg:aC ((L.drop 1).take 3) (j:Int)=some (L[j+1]'(by omega)):=by
   rw [cQ (by omega),List.getElem_take,List.getElem_drop];simp only [Nat.add_comm]
  rw [hlen,decide_eq_true (by omega),cond_true,hg,aN,bK (by omega)];refine bl (fun h=>aO (.inl ⟨_,rfl,⟨j+1,by omega,Int.le_refl _,rfl,fun i hi hle=>?_⟩,rfl⟩)) (fun h=>aO (.inl ⟨_,rfl,⟨k,hk,by dsimp only;omega,k2,fun i hi hle=>?_⟩,rfl⟩))
  ·have h:=of_decide_eq_true h;dsimp only at hle⊢;by_cases e:i=j+1
   ·subst e;exact⟨Int.le_refl _,fun q=>absurd q (by omega)⟩
   ·have:=(k3 i hi (by omega)).1;exact⟨by omega,fun _=>by omega⟩
  ·have h:=of_decide_eq_false h;dsimp only at hle⊢;by_cases e:i=j+1
   ·subst e;exact⟨by omega,fun q=>absurd q (by omega)⟩
   ·exact k3 i hi (by omega)
 ·obtain⟨v,b⟩:=q;obtain⟨k,hk,k1,k2,k3⟩:=hI;dsimp only at k1 k2 k3 hq;subst hq;unfold AJ;dsimp only;rw [hlen,decide_eq_false (by omega)];exact aO ⟨_,rfl,k,hk,k2,fun j hj=>k3 j hj (by omega)⟩
 ·have e:j=0:=by dsimp only at hle;omega
  subst e;exact⟨Int.le_refl _,fun h=>absurd h (by omega)⟩
end
theorem X' (r:aJ):gx cP r r=true:=by
 show(r.X.a==r.X.a&&(r.X.b==r.X.b&&(r.Y.a==r.Y.a&&(r.Y.b==r.Y.b&&true))))=true
 simp
theorem aoY (haw:uM=some true) (t:me) (dw:Int):D4 t dw=some true:=by
 obtain⟨sb,s1,s2⟩:=anI t;unfold D4;rw [s1,aN,haw];simp only [aN];cases sb with
 |false=>rfl
 |true=>
 rw [Bool.not_true,cond_false];have H7:=s2 rfl;obtain⟨av,a1,a2,a3⟩:=aoW (s:=t.Scan) (c:=t.dT) (sw:=t.dW) (vr:=t.gy) (lim:=t.mN) (most:=t.mO) ⟨H7.rings,H7.A4,H7.reads⟩ H7.anH;obtain⟨bv,b1,b2,b3,b4⟩:=aoX a1 (fun h=>(a3 h).1);rw [a1,b1,aN,aN,b2,show(av.2!=av.2)=false by simp,cond_false]
 by_cases h0:av.2=0
 ·obtain⟨c1,c2⟩:=a3 h0;obtain⟨k,hk,k1,k2⟩:=b4 h0;obtain⟨L,e⟩:=av;dsimp only at h0 c1 c2 hk k1 k2⊢;subst h0;obtain⟨pk,fk,ck⟩:=c2 k hk;have hq:bv.1.oL=(k:Int):=by rw [k1];exact ck.q
  rw [show((0:Int)!=0)=false from rfl,cond_false,c1,show(((4:Nat):Int)!=4)=false from rfl,cond_false,hq,decide_eq_false (by omega),cond_false,decide_eq_false (by omega),cond_false,cQ hk,aN,←k1,show(bv.1.Value !=bv.1.Value)=false by simp,cond_false]
  obtain⟨p0,f0,h00⟩:=c2 0 (by omega)
  have lens:∀(i:Nat) (hi:i<L.length) (pv:List aV×List Df×Int) (f:aJ),Ch t.Scan t.dT t.dW t.gy t.mN t.mO i L[i] pv f→nU pv.1=some (bA p0.1):=by
   intro i hi pv f h;rw [AS,length_eq h.fD h.jR,an6 h.lz h00.lz]
  have loop:bH (bb (fun q:Int×Int=>xA t bv (L,0) q.1 q.2) (0,0)) (fun z=>z=.inr ()):=by
   refine di 4 (fun q:Int×Int=>q.2) (fun q=>q.2=0∨q.1=bA p0.1) (fun q j hI qS hj=>?_) (fun q hI qS=>?_) (.inl rfl) rfl (Nat.zero_le _)
   ·obtain⟨pH,i⟩:=q;dsimp only at hI qS;subst qS;have eR:j<L.length:=by omega
    obtain⟨pv,f,h⟩:=c2 j eR;obtain⟨y,y1,y2,y3⟩:=h.val
    have ao1:(bif((j:Int)==0) then(β (nU pv.1) (fun lv=>some lv)) else some pH:Option Int)=some (bA p0.1):=by
     rw [lens j eR pv f h];by_cases e:(j:Int)=0
     ·rw [show((j:Int)==0)=true by simp;omega]
      rfl
     ·rw [show((j:Int)==0)=false by simp;omega,cond_false]
      rcases hI with q|q
      ·exact absurd q e
      ·rw [q]
    have hv:D3 ⟨pv.1,pv.2.1,t.dT,t.dW,t.gy⟩ L[j].Pattern=some (L[j].Value,0):=by
     unfold D3;dsimp only;rw [y1,aN,y2,y3]
    obtain⟨v1,v2⟩:=k2 j eR;have fin:bH (some (κ (bA p0.1,U ((j:Int)+1))):Option ((Int×Int)⊕(Bool⊕Unit))) (fun z=>(∃x':Int×Int,z=.inl x'∧(x'.2=0∨x'.1=bA p0.1)∧x'.2=((j+1:Nat):Int))∨∃y,z=.inr y∧y=.inr ()):=aO (.inl ⟨_,rfl,.inr rfl,bK (by omega)⟩);unfold xA;dsimp only;rw [decide_eq_true (by omega),cond_true,h.place,aN,cQ eR];simp only [aN];rw [hv,aN,ao1,aN,h.ok,show((0:Int)!=0)=false from rfl,cond_false,cond_false,h.q,show((j:Int)!=(j:Int))=false by simp,cond_false,show(L[j].Value !=L[j].Value)=false by simp,cond_false,decide_eq_false (by omega),cond_false,hq,h.frame,h.pf,h.df,lens j eR pv f h]
    simp only [aN];rw [X',Bool.not_true,cond_false,show(((t.Scan.dm.length:Nat):Int)!=((t.Scan.dm.length:Nat):Int))=false by simp,cond_false,show(bA p0.1!=bA p0.1)=false by simp,cond_false]
    refine bl (fun bB=>?_) (fun _=>fin);have bB:=of_decide_eq_true bB;have:=v2 (by omega);rw [show(L[j].Value==bv.1.Value)=false by simp;omega,cond_false]
    exact fin
   ·obtain⟨pH,i⟩:=q;dsimp only at qS;subst qS;unfold xA;dsimp only;rw [decide_eq_false (by omega)];exact aO ⟨_,rfl,rfl⟩
  obtain⟨z,z1,rfl⟩:=loop;rw [z1,aN,Sum.elim_inr,aoT t.Scan dw];obtain⟨m1,m2⟩:=Ey dw;obtain⟨n,hn⟩:=Int.eq_ofNat_of_zero_le m1;rw [hn] at m2⊢;obtain⟨pv,f,h⟩:=c2 n (by omega);rw [h.place,aN,aN,h.ok,show((0:Int)==0)=true from rfl,cond_true,cond_true,MM h.fD h.jR,aN,aN,show(iz pv.1==iz pv.1)=true by simp,cond_true,h.frame,aN,aN,X',cond_true]
 ·obtain⟨c1,c2⟩:=b3 h0;rw [show(av.2!=0)=true by simp [h0],cond_true,a2 h0,c1,c2]
  rfl
def Ya:List dA:=[⟨⟨65,0⟩,true⟩,⟨⟨65,25⟩,true⟩,⟨⟨0,25⟩,true⟩,⟨⟨-65,25⟩,true⟩,⟨⟨-65,0⟩,true⟩,⟨⟨-65,-25⟩,true⟩,⟨⟨0,-25⟩,true⟩,⟨⟨65,-25⟩,true⟩]
def kf:eA:=⟨[⟨0,Ya⟩,⟨2000,Ya⟩],[]⟩
def A':List aV:=[⟨2000,⟨-2,List.replicate 4 ⟨-65,65⟩⟩⟩]
def mx:List aV:=[⟨2000,⟨-6,List.replicate 12 ⟨-25,25⟩⟩⟩]
def EL:aJ:=⟨⟨-65,65⟩,⟨-20,20⟩⟩
def nB:aJ:=⟨⟨-25,25⟩,⟨-60,60⟩⟩
def jb:cS:=⟨4,5,10,500⟩
def iP:da:=⟨0,0,0⟩
theorem ao2:CA=some kf:=by kernel_rfl
theorem ao3:lU kf 0 100 2=some (A',[],0):=by kernel_rfl
theorem ao4:lU kf 1 100 2=some (mx,[],0):=by kernel_rfl
theorem ao5:lU kf 2 100 2=some (A',[],0):=by kernel_rfl
theorem ao6:lU kf 3 100 2=some (mx,[],0):=by kernel_rfl
theorem Yb:oZ A'=some EL:=by kernel_rfl
theorem Yc:oZ mx=some nB:=by kernel_rfl
def jc:dR:=⟨EL,[⟨0,0⟩]⟩
theorem Yd:s8 A' [] gj EL jb iP=some (jc,0,0):=by kernel_rfl
def Ni:List bq:=[⟨2,17⟩,⟨1,0⟩,⟨0,0⟩]
def Ba:List Int:=70000000::(List.replicate 9 (-1)++70000000::List.replicate 5 (-1))
def H8:List (List bq):=Ni::(List.replicate 9 []++Ni::List.replicate 5 [])
def Ye:cT:=⟨120,4,1,[42,105],[List.replicate 79 (-1),Ba],List.replicate 120 0,List.replicate 120 0⟩
theorem ao7:bb (fun q=>sZ mx [] gj nB jb iP 42 q.1 q.2.1 q.2.2) ([],[],0)=some (List.replicate 79 (-1),List.replicate 79 []):=by kernel_rfl
theorem ao8:bb (fun q=>sZ mx [] gj nB jb iP 105 q.1 q.2.1 q.2.2) ([],[],0)=some (Ba,H8):=by kernel_rfl
theorem ao9:Ak gj=some [42,105]:=by kernel_rfl
theorem ao_:bb (fun q=>uI mx nB iP q.1 q.2.1 q.2.2.1 q.2.2.2) (0,[List.replicate 79 (-1),Ba],[],[])=some ([List.replicate 79 (-1),Ba],List.replicate 120 0,List.replicate 120 0):=by kernel_rfl
theorem ao':xr mx [] gj nB jb iP=some (Ye,[List.replicate 79 [],H8]):=by
 have s0:nZ mx [] gj nB jb iP [42,105] [] 0 [] [] []=some (.inl ([List.replicate 79 []],1,[List.replicate 79 (-1)],[],[])):=by
  unfold nZ;rw [show aC [(42:Int),105] 0=some 42 from rfl,aN,ao7]
  kernel_rfl
 have s1:nZ mx [] gj nB jb iP [42,105] [List.replicate 79 []] 1 [List.replicate 79 (-1)] [] []=some (.inl ([List.replicate 79 [],H8],2,[List.replicate 79 (-1),Ba],[],[])):=by
  unfold nZ;rw [show aC [(42:Int),105] 1=some 105 from rfl,aN,ao8]
  kernel_rfl
 unfold xr;rw [ao9,aN,iU (step:=fun q=>nZ mx [] gj nB jb iP [42,105] q.1 q.2.1 q.2.2.1 q.2.2.2.1 q.2.2.2.2) s0,iU (step:=fun q=>nZ mx [] gj nB jb iP [42,105] q.1 q.2.1 q.2.2.1 q.2.2.2.1 q.2.2.2.2) s1,fr (step:=fun q=>nZ mx [] gj nB jb iP [42,105] q.1 q.2.1 q.2.2.1 q.2.2.2.1 q.2.2.2.2) (y:=([List.replicate 79 [],H8],[List.replicate 79 (-1),Ba],[],[])) rfl,aN,ao_];rfl
theorem apa:xl Ye=some ([⟨1,0⟩],70000000,0):=by kernel_rfl
def lB:dR:=⟨nB,⟨3,45⟩::(Ni++[⟨0,0⟩])⟩
theorem apb:Af mx [] gj nB jb iP=some 0:=by kernel_rfl
theorem Yf:s8 mx [] gj nB jb iP=some (lB,70000000,0):=by
 unfold s8;rw [apb,aN,ao',aN,apa,aN];kernel_rfl
theorem stepT (k:Int) (L:List fi) (fD:List aV) (f:aJ) (p:dR) (v:Int) (hk:0≤k∧k<4) (hL:L.length≤4) (h1:lU kf k 100 2=some (fD,[],0)) (h2:oZ fD=some f) (h3:s8 fD [] gj f jb iP=some (p,v,0)):k8 kf gj jb iP 100 2 L k=some (.inl (L++[⟨k,p,v⟩],k+1)):=by
 unfold k8;rw [decide_eq_true hk.2,cond_true,h1,aN,show((0:Int)!=0)=false from rfl,cond_false,h2,aN,h3,aN,show((0:Int)!=0)=false from rfl,cond_false,jT (by simp only [List.length_cons,List.length_nil];omega) (by simp only [List.length_cons,List.length_nil];omega),aN,bu (by omega) (by omega)]
theorem apc:k8 kf gj jb iP 100 2 [] 0=some (.inl ([⟨0,jc,0⟩],1)):=stepT 0 [] A' EL jc 0 (by decide) (by decide) ao3 Yb Yd
theorem apd:k8 kf gj jb iP 100 2 [⟨0,jc,0⟩] 1=some (.inl ([⟨0,jc,0⟩,⟨1,lB,70000000⟩],2)):=stepT 1 [⟨0,jc,0⟩] mx nB lB 70000000 (by decide) (by decide) ao4 Yc Yf
theorem ape:k8 kf gj jb iP 100 2 [⟨0,jc,0⟩,⟨1,lB,70000000⟩] 2=some (.inl ([⟨0,jc,0⟩,⟨1,lB,70000000⟩,⟨2,jc,0⟩],3)):=stepT 2 [⟨0,jc,0⟩,⟨1,lB,70000000⟩] A' EL jc 0 (by decide) (by decide) ao5 Yb Yd
theorem apf:k8 kf gj jb iP 100 2 [⟨0,jc,0⟩,⟨1,lB,70000000⟩,⟨2,jc,0⟩] 3=some (.inl ([⟨0,jc,0⟩,⟨1,lB,70000000⟩,⟨2,jc,0⟩,⟨3,lB,70000000⟩],4)):=stepT 3 [⟨0,jc,0⟩,⟨1,lB,70000000⟩,⟨2,jc,0⟩] mx nB lB 70000000 (by decide) (by decide) ao6 Yc Yf
theorem apg (L:List fi):k8 kf gj jb iP 100 2 L 4=some (.inr (.inr L)):=by
 unfold k8;rw [decide_eq_false (by decide)];rfl
theorem Yg:qQ kf gj jb iP 100 2=some ([⟨0,jc,0⟩,⟨1,lB,70000000⟩,⟨2,jc,0⟩,⟨3,lB,70000000⟩],0):=by
 unfold qQ;rw [iU (step:=fun q=>k8 kf gj jb iP 100 2 q.1 q.2) (x:=([],0)) apc];rw [iU (step:=fun q=>k8 kf gj jb iP 100 2 q.1 q.2) (x:=([⟨0,jc,0⟩],1)) apd];rw [iU (step:=fun q=>k8 kf gj jb iP 100 2 q.1 q.2) (x:=([⟨0,jc,0⟩,⟨1,lB,70000000⟩],2)) ape];rw [iU (step:=fun q=>k8 kf gj jb iP 100 2 q.1 q.2) (x:=([⟨0,jc,0⟩,⟨1,lB,70000000⟩,⟨2,jc,0⟩],3)) apf];rw [fr (step:=fun q=>k8 kf gj jb iP 100 2 q.1 q.2) (x:=([⟨0,jc,0⟩,⟨1,lB,70000000⟩,⟨2,jc,0⟩,⟨3,lB,70000000⟩],4)) (apg _)];rfl
theorem aph:s_ kf gj jb iP 100 2=some (⟨1,lB,70000000⟩,0):=by
 unfold s_;rw [Yg,aN];kernel_rfl
theorem awT:uM=some true:=by
 unfold uM;rw [ao2,aN,fe,show qQ kf gj ⟨4,5,10,500⟩ ⟨0,0,0⟩ 100 2=_ from Yg,aN,aN,fe,show s_ kf gj ⟨4,5,10,500⟩ ⟨0,0,0⟩ 100 2=_ from aph,aN]
 kernel_rfl
theorem apj (t:me) (dw:Int):D4 t dw=some true:=aoY awT t dw
end Go.Proofs.YtccnpbnokndeeaaGreatDoor
namespace Go.Ab
open Go.RowKit Go.WideShapes Go.ChangeShapes
section
variable{H:Type} {enc:TypeId×Value→H} {P:Program} {w:World}
theorem Nj {P:Program} {w:World} {base:Nat} {spare:Nat→Bool} {held:Bool} {fuel:Nat} {t:TypeId} {cs:List Value} {x:DataW H×List MemPlace} {a b:Int}
  (ht:(∃e,P.underlying t=some (.array 2 e)∧P.underlying e=some (.int .i64)∧P.cellsOf e=1)∨(∃f g:Field,P.underlying t=some (.struct #[f,g])∧P.underlying f.type=some (.int .i64)∧P.underlying g.type=some (.int .i64)∧f.offset=0∧g.offset=1∧P.cellsOf f.type=1∧P.cellsOf g.type=1))
  (hc:P.cellsOf t=2) (h:DataW.trod enc P w base spare held fuel t cs=some x) (hx:x.1=.agg [.lit (.int .i64 a),.lit (.int .i64 b)]):cs=[.int .i64 a,.int .i64 b]:=by
 have fin:∀(xs:List (DataW H×List MemPlace)) (m:Nat) (e1 e2:TypeId),P.underlying e1=some (.int .i64)→P.underlying e2=some (.int .i64)→xs.map (·.1)=[.lit (.int .i64 a),.lit (.int .i64 b)]→cs.length=2→
   DataW.trod enc P w base spare held m e1 ((cs.drop 0).take 1)=xs[0]?→DataW.trod enc P w base spare held m e2 ((cs.drop 1).take 1)=xs[1]?→cs=[.int .i64 a,.int .i64 b]:=by
  intro xs m e1 e2 u1 u2 hm hl h0 h1
  match xs,(show xs.length=2 by simpa using congrArg List.length hm),hm with
  |[x0,x1],_,hm=>
   simp only [List.map_cons,List.map_nil,List.cons.injEq,and_true] at hm;obtain⟨k0,p0,q0,_⟩:=DataW.trod_int u1 (show DataW.trod enc P w base spare held m e1 _=some x0 from h0)
   obtain⟨k1,p1,q1,_⟩:=DataW.trod_int u2 (show DataW.trod enc P w base spare held m e2 _=some x1 from h1)
   match cs,hl with
   |[c0,c1],_=>
    simp at p0 p1;rw [q0,q1] at hm;simp at hm;rw [p0,p1,hm.1,hm.2]
 rcases ht with⟨e,u,ue,ce⟩|⟨f,g,u,uf,ug,of,og,cf,cg⟩
 ·obtain⟨xs,m,_,ex,hl,_,iS⟩:=DataW.trod_array u h;subst ex;refine fin xs m e e ue ue (DataW.agg.inj hx) (by omega) ?_ ?_
  ·have:=iS 0 (by decide);rwa [ce] at this
  ·have:=iS 1 (by decide);rwa [ce] at this
 ·obtain⟨xs,m,_,ex,hl,_,iS⟩:=DataW.trod_struct u h;subst ex;refine fin xs m f.type g.type uf ug (DataW.agg.inj hx) (by omega) ?_ ?_
  ·have:=iS 0 f rfl;rwa [of,cf] at this
  ·have:=iS 1 g rfl;rwa [og,cg] at this
theorem apk {P:Program} {w:World} {base:Nat} {spare:Nat→Bool} {held:Bool} {fuel:Nat} {t e:TypeId} {n:Nat} {cs:List Value} {x:DataW H×List MemPlace} {l:List (Int×Int)}
  (hu:P.underlying t=some (.array n e)) (hn:P.cellsOf t=n*2) (hc:P.cellsOf e=2)
  (ht:(∃e',P.underlying e=some (.array 2 e')∧P.underlying e'=some (.int .i64)∧P.cellsOf e'=1)∨(∃f g:Field,P.underlying e=some (.struct #[f,g])∧P.underlying f.type=some (.int .i64)∧P.underlying g.type=some (.int .i64)∧f.offset=0∧g.offset=1∧P.cellsOf f.type=1∧P.cellsOf g.type=1))
  (h:DataW.trod enc P w base spare held fuel t cs=some x) (hx:x.1=.agg (l.map fun p=>.agg [.lit (.int .i64 p.1),.lit (.int .i64 p.2)])):cs=l.flatMap fun p=>[.int .i64 p.1,.int .i64 p.2]:=by
 obtain⟨xs,m,_,ex,hl,hlen,iS⟩:=DataW.trod_array hu h;subst ex;have iT:=DataW.agg.inj hx
 have go:∀(l:List (Int×Int)) (xs:List (DataW H×List MemPlace)) (cs:List Value),cs.length=l.length*2→xs.map (·.1)=l.map (fun p=>.agg [.lit (.int .i64 p.1),.lit (.int .i64 p.2)])→
   (∀i<l.length,DataW.trod enc P w base spare held m e ((cs.drop (i*2)).take 2)=xs[i]?)→cs=l.flatMap fun p=>[.int .i64 p.1,.int .i64 p.2]:=by
  intro l
  induction l with
  |nil=>intro xs cs h1 _ _;exact List.eq_nil_of_length_eq_zero (by simpa using h1)
  |cons p l ih=>
   intro xs cs h1 h2 h3
   match xs,h2 with
   |x0::xs,h2=>
    simp only [List.map_cons,List.cons.injEq] at h2;have a0:=Nj ht hc (show DataW.trod enc P w base spare held m e ((cs.drop (0*2)).take 2)=some x0 from h3 0 (by simp)) h2.1
    have a1:=ih xs (cs.drop 2) (by simp at h1⊢;omega) h2.2 (fun i hi=>by
     have:=h3 (i+1) (by simpa using hi);rw [List.drop_drop,show 2+i*2=(i+1)*2 by omega]
     simpa using this)
    rw [List.flatMap_cons,←a1,←a0];simp
 have Oo:l.length=n:=by
  have:=congrArg List.length iT;simpa [hlen] using this.symm
 exact go l xs cs (by omega) iT (fun i hi=>by
  have:=iS i (by omega);rwa [hc] at this)
theorem apl {R:Nat→Prop} (h:∀g cs,lk g pd=some cs→R g∧∃(vs:List Value) (arr:Array Value),cs=vs.map .sc∧vs.all flat=true∧(∀k,w.cell? ⟨g,k,none⟩=arr[k]?)∧arr.toList=vs):tk w R:=fun g cs hg=>by
 obtain⟨h1,vs,arr,rfl,h2,h3,rfl⟩:=h g cs hg;refine⟨h1,fun k c hk=>?_⟩;rw [List.getElem?_map] at hk;cases hv:arr.toList[k]?with
 |none=>rw [hv] at hk;cases hk
 |some v=>
  rw [hv] at hk;refine⟨v,List.all_eq_true.1 h2 v (List.mem_of_getElem? hv),(Option.some.inj hk).symm,?_⟩;rw [h3,←Array.getElem?_toList];exact hv
theorem apm {f:Nat} {fn:Func} {spec:ChangeSpec} {tb:TypeId} (B4:∀R:Nat→Prop,(∀g,(lk g pd).isSome=true→R g)→tk w R) (hgs:∀g,(lk g pd).isSome=true→g<w.heap.size) (ss:List Sh) (hl:laidOutB P=true) (lD:fitAll P ss fn.params.toList=true)
  (apo:fn.params.toList.all (fun t=>P.readableRec t&&decide (t<P.types.size))=true) (FF:spec.vars=[]) (sk:fn.resultTypes=#[tb]) (hb:P.underlying tb=some .bool)
  (apq:∀ds:List (DataW H),ds.length=fn.params.toList.length→(spec.fn H ds).results=[.lit (.bool true)]∧(spec.fn H ds).args=ds∧(spec.fn H ds).vars=[])
  (hold:∀py,BE ss py→Holds P f py [] (.sc (.bool true)) [])
  {base:Nat} {args:Array Value} {ds gs:List (DataW H)} {before:List MemPlace} (BD:∀(j:Nat) t v,fn.params[j]?=some t→args[j]?=some v→Value.okWide P w .any base t v)
  (hW:DataW.Whole enc P fn.params.toList spec.vars false w args.toList ds gs before):
  Calls P f args w fun e w'=>∃v,e=.returned v∧spec.post enc P fn false true false false w args v w':=by
 have Yh:=hW;obtain⟨p,q,hA,hV,Yi,hfz,tx⟩:=hW;have Yj:=hV;rw [FF] at Yj;obtain⟨rfl,rfl⟩:=trodVars_none Yj;obtain⟨py,g1,g2,g3,g4⟩:=Ou ss _ _ ds p lD (fun j t v h1 h2=>BD j t v (by simpa using h1) (by simpa using h2)) hA;have bB:∀x∈before,x.block<w.heap.size:=fun x hx=>Yh.lt x hx
 rw [List.append_nil] at Yi;subst Yi
 have Gl:=hold py g1 w args Ph.no (fun n=>p9 before n∨(lk n pd).isSome=true) (by simpa using g2) (fun i c v h1 h2=>(g4 i c v h1 (by simpa using h2)).more fun n hn=>.inl hn)
  ⟨fun b k h=>by simp [lk] at h,fun b b' k k' h h' h1=>by simp [lk] at h1,fun b k h h1=>by simp [lk] at h1,B4 _ (fun g hg=>.inr hg)⟩ (fun b x h=>by simp [Ph.no] at h)
  (fun n hn=>hn.elim (fun⟨x,hx,e⟩=>e▸bB x hx) (hgs n))
 refine Gl.mono ?_;rintro e w' ⟨v,φ',R',rfl,hr,-,-,-,-,-,-,ry⟩;cases hr;have Yk:Below w.heap.size w w':=ry.below (by rintro i ⟨b,k,h,h1,-⟩;simp [lk] at h1);obtain⟨s1,s2,s3⟩:=apq (ds++[]) (by rw [List.append_nil];exact g3);refine⟨_,rfl,aax (pa:=before) (pv:=[]) Yh ?_ ?_ ?_ (by simp) Yk ?_⟩
 ·intro b sp hd;rw [s1,sk];exact trodAll_cons_mk (shut_bool hb _) trodAll_mk0
 ·intro sp rY;rw [s2,List.append_nil];exact Ov hl _ _ _ _ apo hA (fun x hx=>Yk.same (bB x hx)) rY
 ·intro sp rY;rw [s3,FF];rfl
 ·exact ok_one sk rfl (okWide_bool_mk hb _)
end
end Go.Ab
end
