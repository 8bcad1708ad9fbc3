/- Texts for the law: P4, P5, P6, P7, P8, P9, P10, P11, P12, P13, P14, Ab50. -/
import Derived.Test.YtccnpbnokndeeaaGreatDoorM12
noncomputable section
open Option renaming bind→β
open Sum renaming inr→ι,inl→κ
namespace Go.Proofs.YtccnpbnokndeeaaGreatDoor
open Go Go.Ab
set_option maxRecDepth 20000
set_option maxHeartbeats 1000000
theorem N1 (e:Sp) {a p b:Int} (h1:a≤p) (h2:p≤b):cm e ⟨a,b⟩=cm e ⟨a,p⟩+cm e ⟨p,b⟩:=by
 unfold cm;dsimp only;omega
theorem N2 (e:Sp) {s t:Sp} (h1:t.a≤s.a) (h2:s.b≤t.b):cm e s≤cm e t:=by
 unfold cm;omega
theorem Zl {Y:Sp} {a p b:Int} (h1:a≤p) (h2:p≤b):∀(es:List Sp) (low:Int),c_ ⟨a,b⟩ Y es low=c_ ⟨a,p⟩ Y es low+c_ ⟨p,b⟩ Y es low
 |[],_=>rfl
 |e::es,low=>by
  show cm e ⟨a,b⟩*cm (fE low) Y+c_ ⟨a,b⟩ Y es (low+1)=cm e ⟨a,p⟩*cm (fE low) Y+c_ ⟨a,p⟩ Y es (low+1)+(cm e ⟨p,b⟩*cm (fE low) Y+c_ ⟨p,b⟩ Y es (low+1))
  rw [Zl h1 h2 es,N1 e h1 h2,Int.add_mul];omega
theorem Zm {X:Sp} {a p b:Int} (h1:a≤p) (h2:p≤b):∀(es:List Sp) (low:Int),c_ X ⟨a,b⟩ es low=c_ X ⟨a,p⟩ es low+c_ X ⟨p,b⟩ es low
 |[],_=>rfl
 |e::es,low=>by
  show cm e X*cm (fE low) ⟨a,b⟩+c_ X ⟨a,b⟩ es (low+1)=cm e X*cm (fE low) ⟨a,p⟩+c_ X ⟨a,p⟩ es (low+1)+(cm e X*cm (fE low) ⟨p,b⟩+c_ X ⟨p,b⟩ es (low+1))
  rw [Zm h1 h2 es,N1 (fE low) h1 h2,Int.mul_add];omega
theorem N3 {Y z:Sp} {a p b:Int} (h1:a≤p) (h2:p≤b):∀(l:List aG) (at_:Int),dS ⟨a,b⟩ Y z l at_=dS ⟨a,p⟩ Y z l at_+dS ⟨p,b⟩ Y z l at_
 |[],_=>rfl
 |e::es,k=>by
  show cm ⟨k,k+e.aX⟩ z*c_ ⟨a,b⟩ Y e.bL.Rows e.bL.bY+dS ⟨a,b⟩ Y z es (k+e.aX)=cm ⟨k,k+e.aX⟩ z*c_ ⟨a,p⟩ Y e.bL.Rows e.bL.bY+dS ⟨a,p⟩ Y z es (k+e.aX)+(cm ⟨k,k+e.aX⟩ z*c_ ⟨p,b⟩ Y e.bL.Rows e.bL.bY+dS ⟨p,b⟩ Y z es (k+e.aX))
  rw [N3 h1 h2 es,Zl h1 h2,Int.mul_add];omega
theorem N4 {X z:Sp} {a p b:Int} (h1:a≤p) (h2:p≤b):∀(l:List aG) (at_:Int),dS X ⟨a,b⟩ z l at_=dS X ⟨a,p⟩ z l at_+dS X ⟨p,b⟩ z l at_
 |[],_=>rfl
 |e::es,k=>by
  show cm ⟨k,k+e.aX⟩ z*c_ X ⟨a,b⟩ e.bL.Rows e.bL.bY+dS X ⟨a,b⟩ z es (k+e.aX)=cm ⟨k,k+e.aX⟩ z*c_ X ⟨a,p⟩ e.bL.Rows e.bL.bY+dS X ⟨a,p⟩ z es (k+e.aX)+(cm ⟨k,k+e.aX⟩ z*c_ X ⟨p,b⟩ e.bL.Rows e.bL.bY+dS X ⟨p,b⟩ z es (k+e.aX))
  rw [N4 h1 h2 es,Zm h1 h2,Int.mul_add];omega
theorem N5 {X Y:Sp} {a p b:Int} (h1:a≤p) (h2:p≤b):∀(l:List aG) (at_:Int),dS X Y ⟨a,b⟩ l at_=dS X Y ⟨a,p⟩ l at_+dS X Y ⟨p,b⟩ l at_
 |[],_=>rfl
 |e::es,k=>by
  show cm ⟨k,k+e.aX⟩ ⟨a,b⟩*c_ X Y e.bL.Rows e.bL.bY+dS X Y ⟨a,b⟩ es (k+e.aX)=cm ⟨k,k+e.aX⟩ ⟨a,p⟩*c_ X Y e.bL.Rows e.bL.bY+dS X Y ⟨a,p⟩ es (k+e.aX)+(cm ⟨k,k+e.aX⟩ ⟨p,b⟩*c_ X Y e.bL.Rows e.bL.bY+dS X Y ⟨p,b⟩ es (k+e.aX))
  rw [N5 h1 h2 es,N1 _ h1 h2,Int.add_mul];omega
theorem N6 {X Y X' Y':Sp} (h1:X'.a≤X.a) (h2:X.b≤X'.b) (h3:Y'.a≤Y.a) (h4:Y.b≤Y'.b):∀(es:List Sp) (low:Int),c_ X Y es low≤c_ X' Y' es low
 |[],_=>Int.le_refl _
 |e::es,low=>by
  have ih:=N6 h1 h2 h3 h4 es (low+1);have:=Int.mul_le_mul (N2 e h1 h2) (N2 (fE low) h3 h4) (k7 _ _) (k7 _ _);show cm e X*cm (fE low) Y+c_ X Y es (low+1)≤cm e X'*cm (fE low) Y'+c_ X' Y' es (low+1)
  omega
theorem Hh {X Y z X' Y' z':Sp} (h1:X'.a≤X.a) (h2:X.b≤X'.b) (h3:Y'.a≤Y.a) (h4:Y.b≤Y'.b) (h5:z'.a≤z.a) (h6:z.b≤z'.b):∀(l:List aG) (a:Int),dS X Y z l a≤dS X' Y' z' l a
 |[],_=>Int.le_refl _
 |e::es,k=>by
  have ih:=Hh h1 h2 h3 h4 h5 h6 es (k+e.aX);have:=Int.mul_le_mul (N2 ⟨k,k+e.aX⟩ h5 h6) (N6 h1 h2 h3 h4 e.bL.Rows e.bL.bY) (qJ ..) (k7 _ _);show cm ⟨k,k+e.aX⟩ z*c_ X Y e.bL.Rows e.bL.bY+dS X Y z es (k+e.aX)≤cm ⟨k,k+e.aX⟩ z'*c_ X' Y' e.bL.Rows e.bL.bY+dS X' Y' z' es (k+e.aX)
  omega
theorem nO (X Y z:Sp):∀(l:List aG) (a:Int),0≤dS X Y z l a
 |[],_=>Int.le_refl _
 |e::es,k=>by
  have ih:=nO X Y z es (k+e.aX);have:=Int.mul_nonneg (k7 ⟨k,k+e.aX⟩ z) (qJ X Y e.bL.Rows e.bL.bY);show 0≤cm ⟨k,k+e.aX⟩ z*c_ X Y e.bL.Rows e.bL.bY+dS X Y z es (k+e.aX)
  omega
def WF:Sp:=⟨-600,600⟩
theorem aqp {a:Sp} (h:-1000000≤a.a∧a.a≤1000000∧-1000000≤a.b∧a.b≤1000000):fH a=max 0 (a.b -a.a):=by
 unfold fH Cq zf;by_cases h2:a.b≤a.a
 ·rw [decide_eq_true h2,cond_true,b_ (by omega) (by omega)];omega
 ·rw [decide_eq_false h2,cond_false,AH,AH,AH,b_ (by omega) (by omega)];omega
theorem Zo:∀(es:List Sp) (low:Int),(∀e∈es,-600≤e.a∧e.a≤600∧-600≤e.b∧e.b≤600)→-60≤low→low+es.length≤60→c_ WF WF es low=10*(es.map fun e=>max 0 (e.b -e.a)).sum
 |[],_,_,_,_=>rfl
 |e::es,low,h,h1,h2=>by
  have he:=h e (List.mem_cons_self ..);rw [List.length_cons] at h2;have ih:=Zo es (low+1) (fun e he=>h e (List.mem_cons_of_mem _ he)) (by omega) (by omega);show cm e WF*cm (fE low) WF+c_ WF WF es (low+1)=_
  have c1:cm e WF=max 0 (e.b -e.a):=by unfold cm WF;dsimp only;omega
  have c2:cm (fE low) WF=10:=by unfold cm WF fE;dsimp only;omega
  rw [ih,c1,c2,List.map_cons,List.sum_cons];omega
theorem aqq {s:cb} (h:oU s) (hc:oC s=some 0):xi s=some (c_ WF WF s.Rows s.bY):=by
 have hl:=h.len;have hw:=h.low
 have key:∀j,j≤s.Rows.length→0≤((s.Rows.take j).map fun e=>max 0 (e.b -e.a)).sum∧((s.Rows.take j).map fun e=>max 0 (e.b -e.a)).sum≤1200*j:=by
  intro j
  induction j with
  |zero=>intro _;simp
  |succ j ih=>
   intro hj;have:=ih (by omega);have hr:=h.tB _ (List.getElem_mem (show j<s.Rows.length by omega))
   rw [List.take_succ_eq_append_getElem (by omega),List.map_append,List.sum_append];simp only [List.map_cons,List.map_nil,List.sum_cons,List.sum_nil];omega
 unfold xi pE;rw [GY,hc,aT,show((0:Int)!=0)=false from rfl,cond_false,aT]
 have:=kZ (step:=fun q:Int×Int=>td s q.1 q.2) (fun j=>(((s.Rows.take j).map fun e=>max 0 (e.b -e.a)).sum,(j:Int))) s.Rows.length (y:=(s.Rows.map fun e=>max 0 (e.b -e.a)).sum) (fun j hj=>by
  have hr:=h.tB _ (List.getElem_mem hj);have k1:=key j (by omega);unfold td;dsimp only;rw [eb hj,cond_true,dw hj,aT,aqp (by omega),b_ (n:=_+_) (by omega) (by omega),cC (by omega),List.take_succ_eq_append_getElem hj,List.map_append,List.sum_append];simp) (by
  unfold td;dsimp only;rw [eU,List.take_length];rfl)
 rw [show(((s.Rows.take 0).map fun e=>max 0 (e.b -e.a)).sum,((0:Nat):Int))=((0:Int),(0:Int)) from rfl] at this
 rw [this,aT];have k2:=key s.Rows.length (Nat.le_refl _);rw [List.take_length] at k2;rw [b_ (by omega) (by omega),Zo s.Rows s.bY h.tB hw.1 hw.2]
def fV:List aG→Int
 |[]=>0
 |e::es=>e.aX*c_ WF WF e.bL.Rows e.bL.bY+fV es
theorem Zp:∀(l:List aG) (e:aG),fV (l++[e])=fV l+e.aX*c_ WF WF e.bL.Rows e.bL.bY
 |[],e=>by simp [fV]
 |f::l,e=>by
  show f.aX*_+fV (l++[e])=f.aX*_+fV l+_
  rw [Zp l e];omega
theorem Hi:∀(l:List aG),(∀e∈l,oU e.bL∧1≤e.aX∧e.aX≤20000)→0≤fV l∧fV l≤28800000000*l.length
 |[],_=>⟨Int.le_refl _,Int.le_refl _⟩
 |e::es,h=>by
  obtain⟨h1,h2,h3⟩:=h e (List.mem_cons_self ..);have ih:=Hi es fun e he=>h e (List.mem_cons_of_mem _ he)
  have w1:=qJ WF WF e.bL.Rows e.bL.bY;have w2:=DB WF WF e.bL.Rows e.bL.bY h1.tB;have hl:=h1.len;have h4:=Int.mul_le_mul (a:=e.aX) (c:=20000) (b:=c_ WF WF e.bL.Rows e.bL.bY) (d:=1440000) h3 (by omega) w1 (by omega);have h5:=Int.mul_nonneg (show 0≤e.aX by omega) w1
  show 0≤e.aX*_+fV es∧e.aX*_+fV es≤28800000000*((es.length+1:Nat):Int)
  omega
theorem Zq {l:List aG} (h:kI l) (hc:jj l=some 0):uK l=some (fV l):=by
 have hl:=h.len;unfold uK qu;rw [uV,hc,aT,show((0:Int)!=0)=false from rfl,cond_false,aT]
 have:=kZ (step:=fun q:Int×Int=>te l q.1 q.2) (fun j=>(fV (l.take j),(j:Int))) l.length (y:=fV l) (fun j hj=>by
  have hs:=h.sec _ (List.getElem_mem hj);have hb:=Hi (l.take j) fun e he=>AI h e (List.mem_of_mem_take he)
  have ph:=Hi (l.take (j+1)) fun e he=>AI h e (List.mem_of_mem_take he)
  have kP:=Zp (l.take j) l[j];rw [←List.take_succ_eq_append_getElem hj] at kP;rw [List.length_take] at hb ph;unfold te;dsimp only;rw [eb hj,cond_true,dw hj,aT,aqq hs.1 hs.2.2,aT,cC (by omega)];have h5:=Int.mul_nonneg (show 0≤l[j].aX by omega) (qJ WF WF l[j].bL.Rows l[j].bL.bY)
  rw [b_ (n:=_*_) (by omega) (by omega),←kP,b_ (by omega) (by omega)]) (by
  unfold te;dsimp only;rw [eU,List.take_length];rfl)
 rw [show(fV (l.take 0),((0:Nat):Int))=((0:Int),(0:Int)) from rfl] at this
 rw [this];rfl
theorem Zs {X Y z:Sp} (h1:-600≤X.a) (h2:X.b≤600) (h3:-600≤Y.a) (h4:Y.b≤600):∀(l:List aG) (a:Int),(∀e∈l,1≤e.aX)→dS X Y z l a≤fV l
 |[],_,_=>Int.le_refl _
 |e::es,k,h=>by
  have ih:=Zs h1 h2 h3 h4 es (k+e.aX) (z:=z) fun e he=>h e (List.mem_cons_of_mem _ he)
  have he:=h e (List.mem_cons_self ..);have c1:cm ⟨k,k+e.aX⟩ z≤e.aX:=uX (by omega) (by dsimp only;omega);have:=Int.mul_le_mul c1 (N6 (X:=X) (Y:=Y) (X':=WF) (Y':=WF) h1 h2 h3 h4 e.bL.Rows e.bL.bY) (qJ ..) (by omega);show cm ⟨k,k+e.aX⟩ z*c_ X Y e.bL.Rows e.bL.bY+dS X Y z es (k+e.aX)≤e.aX*c_ WF WF e.bL.Rows e.bL.bY+fV es
  omega
def V0 (l:List aG) (r:aH):Int:=dS r.X r.Y ⟨0,bJ l⟩ l 0
def jT (l:List aG) (b:Bx):Int:=dS b.x b.y b.z l 0
def m_ (r:aH):Prop:=-600≤r.X.a∧r.X.a≤r.X.b∧r.X.b≤600∧-600≤r.Y.a∧r.Y.a≤r.Y.b∧r.Y.b≤600
theorem qN (l:List aG) (r:aH):0≤V0 l r:=nO ..
structure xK (l:List aG) (d:List Df) (c:List aQ) (n:Nat) (e:bq):Prop where
 inF:m_ e.bh
 st:e.fQ=false→e.bh=⟨⟨0,0⟩,⟨0,0⟩⟩
 rip:e.kind=2∨e.kind=3→(-600<e.at_∧e.at_<600)∧(0≤e.gr∧e.gr<n)∧(0≤e.second∧e.second<n)
 brd:e.kind=1→0≤e.at_∧e.at_<c.length
 gv:e.gA=true→∃(j:Nat) (hj:j<c.length),e.fR.jf=(j:Int)∧(mq l d c[j]&&acc l d c[j] e.fR.a8)=true
def ow (l:List aG) (ns:List bq) (i:Int):Int:=match aK ns i with
 |some e=>if e.fQ=true then V0 l e.bh else 0
 |none=>0
def bw (l:List aG) (e:bq):Int:=if e.gA=true then V0 l ⟨e.fR.a8.x,e.fR.a8.y⟩ else 0
theorem N7 (l:List aG) (ns:List bq) (i:Int):0≤ow l ns i:=by
 unfold ow;split
 ·split
  ·exact qN ..
  ·exact Int.le_refl _
 ·exact Int.le_refl _
theorem Zt (l:List aG) (e:bq):0≤bw l e:=by
 unfold bw;split
 ·exact qN ..
 ·exact Int.le_refl _
def xL (l:List aG) (ns:List bq) (rs:List Int) (sw:List aH):Int:=(rs.map (ow l ns)).sum+(ns.map (bw l)).sum+(sw.map (V0 l)).sum
structure lA (l:List aG) (d:List Df) (c:List aQ) (T:Int) (ns:List bq) (rs:List Int) (sw:List aH):Prop where
 nodes:∀e∈ns,xK l d c ns.length e
 len:ns.length≤60
 sk:∀i∈rs,∃e,aK ns i=some e∧(e.kind=2∨e.kind=3)
 nd:rs.Nodup
 DQ:sw.length+rs.length≤ns.length
 ml:xL l ns rs sw≤T
theorem Zu {α:Type} (f:α→Int):∀(xs:List α) (i:Nat) (a:α) (hi:i<xs.length),((xs.set i a).map f).sum=(xs.map f).sum+f a -f xs[i]
 |x::xs,0,a,_=>by simp;omega
 |x::xs,i+1,a,hi=>by
  have:=Zu f xs i a (by simpa using hi);simp only [List.set_cons_succ,List.map_cons,List.sum_cons,List.getElem_cons_succ];omega
theorem Zv (f g:Int→Int) (i t:Int) (ht:0≤t) (h:∀j,j≠i→g j=f j) (hi:g i≤f i+t):∀(rs:List Int),rs.Nodup→(rs.map g).sum≤(rs.map f).sum+t
 |[],_=>by simpa using ht
 |r::rs,hn=>by
  rw [List.nodup_cons] at hn;simp only [List.map_cons,List.sum_cons];by_cases e:r=i
  ·subst e;have:rs.map g=rs.map f:=List.map_congr_left fun j hj=>h j (fun e=>hn.1 (e▸hj))
   rw [this];omega
  ·have ih:=Zv f g i t ht h hi rs hn.2;rw [h r e];omega
theorem Zw {α:Type} {xs:List α} {i j:Int} {a:α} (hi:0≤i) (h:j≠i):aK (bp xs i a) j=aK xs j:=by
 unfold bp;cases j with
 |negSucc k=>rfl
 |ofNat k=>
  show(xs.set i.toNat a)[k]?=xs[k]?
  rw [List.getElem?_set_ne];intro e;apply h;rw [←Int.toNat_of_nonneg hi,e];rfl
theorem Zy {α:Type} {xs:List α} {i:Int} {a:α} (hi:0≤i) (h:i<xs.length):aK (bp xs i a) i=some a:=by
 obtain⟨k,rfl⟩:=Int.eq_ofNat_of_zero_le hi;show(xs.set k a)[k]?=some a
 rw [List.getElem?_set_self (by omega)]
theorem lB {α:Type} (xs:List α) (i:Int) (a:α):(bp xs i a).length=xs.length:=by simp [bp]
theorem aqs {α:Type} (xs:List α) (i:Int) (a b:α):bp (bp xs i a) i b=bp xs i b:=by simp [bp]
theorem Zz (n:Int):-9223372036854775808≤U n∧U n≤9223372036854775807:=VW n
theorem ZA {n:Int} (h1:-18446744073709551616≤n) (h2:n< -9223372036854775808):U n=n+18446744073709551616:=by
 show IntKind.i64.wrap n=_
 rw [Jd];split<;>omega
theorem ZB {l:List aG} {d:List Df} {p:aQ} {vr:aH} {bH:Int}:∀(cs:List Sp) (s:Int×Bool×Sp),(s.2.1=true→acc l d p ⟨vr.X,vr.Y,s.2.2⟩=true)→(cs.foldl (bs l d p vr bH) s).2.1=true→acc l d p ⟨vr.X,vr.Y,(cs.foldl (bs l d p vr bH) s).2.2⟩=true
 |[],s,h=>h
 |z::cs,s,h=>by
  refine ZB cs (bs l d p vr bH s z) ?_;unfold bs;cases ha:acc l d p ⟨vr.X,vr.Y,z⟩ with
  |false=>exact h
  |true=>
   rw [cond_true];cases(!s.2.1||decide (s.1<val d p ⟨vr.X,vr.Y,z⟩ bH)) with
   |false=>exact h
   |true=>exact fun _=>ha
theorem aqt {l:List aG} {d:List Df} {p:aQ} {vr:aH} {step bH:Int} {o:Sp×Int×Bool} (h:N0 l d p vr step bH o) (fm:o.2.2=true):mq l d p=true∧acc l d p ⟨vr.X,vr.Y,o.1⟩=true:=by
 rcases h with⟨_,rfl⟩|⟨_,_,_,hv,n,_,_,rfl⟩
 ·cases fm
 ·exact⟨hv,ZB _ _ (fun h=>by cases h) fm⟩
theorem Hj {l:List aG} {d:List Df} {p:aQ} {b:Bx} (h:acc l d p b=true):(-600≤b.x.a∧b.x.a<b.x.b∧b.x.b≤600)∧(-600≤b.y.a∧b.y.a<b.y.b∧b.y.b≤600)∧(0≤b.z.a∧b.z.a<b.z.b∧b.z.b≤bJ l):=by
 unfold acc at h;simp only [Bool.and_eq_true] at h;exact⟨pM h.1,pM h.2.1,DE h.2.2.1⟩
theorem aqu {l:List aG} {d:List Df} {c:List aQ} (hl:lW l) {kf tr pt st ch du fi lg:Int} {ns:List bq} (rs:List Int) (sw:List aH) (hn:∀e∈ns,xK l d c ns.length e) {i:Nat} (hi:i<ns.length) {vr:aH} (hr:m_ vr):
  ∃e',nG l d c kf tr pt st ch du fi lg ns rs sw (i:Int) vr=some (bp ns (i:Int) e',sw)∧xK l d c ns.length e'∧e'.kind=ns[i].kind∧e'.fQ=true∧e'.bh=vr∧(ns[i].kind≠1→bw l e'=bw l ns[i])∧bw l e'≤bw l ns[i]+V0 l vr:=by
 obtain⟨e,he⟩:∃e,e=ns[i]:=⟨_,rfl⟩
 have N:xK l d c ns.length e:=he▸hn _ (List.getElem_mem hi);have plain:xK l d c ns.length ⟨e.kind,e.at_,e.gr,e.second,true,vr,e.leaf,e.dC,e.gA,e.fR⟩:=⟨hr,fun h=>(by cases h),N.rip,N.brd,N.gv⟩;have hv:=qN l vr
 have pl:∃e',(some (bp ns (i:Int) (⟨e.kind,e.at_,e.gr,e.second,true,vr,e.leaf,e.dC,e.gA,e.fR⟩:bq),sw):Option (List bq×List aH))=some (bp ns (i:Int) e',sw)∧xK l d c ns.length e'∧e'.kind=e.kind∧e'.fQ=true∧e'.bh=vr∧(e.kind≠1→bw l e'=bw l e)∧bw l e'≤bw l e+V0 l vr:=
  ⟨_,rfl,plain,rfl,rfl,rfl,fun _=>rfl,by show bw l e≤_;omega⟩
 rw [←he];unfold nG;rw [dw hi,aT,←he];simp only [jt,aqs];by_cases hk:e.kind=1
 ·rw [show(e.kind !=1)=false by simp [hk],cond_false]
  obtain⟨wx,hwx⟩:∃w,w=U (e.dC.X.b -e.dC.X.a):=⟨_,rfl⟩
  obtain⟨wy,hwy⟩:∃w,w=U (e.dC.Y.b -e.dC.Y.a):=⟨_,rfl⟩
  have rx:=Zz (e.dC.X.b -e.dC.X.a);have ry:=Zz (e.dC.Y.b -e.dC.Y.a);rw [←hwx] at rx⊢;rw [←hwy] at ry⊢;obtain⟨g1,g2,g3,g4,g5,g6⟩:=hr;rw [b_ (n:=vr.X.b -vr.X.a) (by omega) (by omega),b_ (n:=vr.Y.b -vr.Y.a) (by omega) (by omega)];by_cases t1:vr.X.b -vr.X.a<wx
  ·rw [decide_eq_true t1,cond_true];exact pl
  rw [decide_eq_false t1,cond_false];by_cases t2:vr.Y.b -vr.Y.a<wy
  ·rw [decide_eq_true t2,cond_true];exact pl
  rw [decide_eq_false t2,cond_false];obtain⟨b1,b2⟩:=N.brd hk;obtain⟨j,hj⟩:=Int.eq_ofNat_of_zero_le b1;have fk:j<c.length:=by omega
  have hg:aK c e.at_=some c[j]:=by rw [hj];exact dw fk
  rw [hg,aT];obtain⟨o,o1,_,o3⟩:=aqo hl d c[j] (⟨⟨vr.X.a,U (vr.X.a+wx)⟩,⟨vr.Y.a,U (vr.Y.a+wy)⟩⟩:aH) st fi;rw [o1,aT];cases fm:o.2.2 with
  |false=>exact pl
  |true=>
   rw [Bool.not_true,cond_false];obtain⟨q1,q2⟩:=aqt o3 fm;have q3:=Hj q2;refine⟨_,rfl,⟨⟨g1,g2,g3,g4,g5,g6⟩,fun h=>(by cases h),N.rip,N.brd,fun _=>⟨j,fk,?_,?_⟩⟩,rfl,rfl,rfl,fun h=>absurd hk h,?_⟩
   ·exact hj
   ·rw [Bool.and_eq_true];exact⟨q1,q2⟩
   ·have hb:=Zt l e;show V0 l ⟨⟨vr.X.a,U (vr.X.a+wx)⟩,⟨vr.Y.a,U (vr.Y.a+wy)⟩⟩≤bw l e+V0 l vr
    have:V0 l ⟨⟨vr.X.a,U (vr.X.a+wx)⟩,⟨vr.Y.a,U (vr.Y.a+wy)⟩⟩≤V0 l vr:=by
     dsimp only at q3
     have ex:U (vr.X.a+wx)≤vr.X.b:=by
      by_cases hw:-9223372036854775808≤vr.X.a+wx
      ·rw [b_ hw (by omega)] at q3⊢;omega
      ·rw [ZA (n:=vr.X.a+wx) (by omega) (by omega)] at q3;omega
     have ey:U (vr.Y.a+wy)≤vr.Y.b:=by
      by_cases hw:-9223372036854775808≤vr.Y.a+wy
      ·rw [b_ hw (by omega)] at q3⊢;omega
      ·rw [ZA (n:=vr.Y.a+wy) (by omega) (by omega)] at q3;omega
     exact Hh (X:=⟨vr.X.a,U (vr.X.a+wx)⟩) (Y:=⟨vr.Y.a,U (vr.Y.a+wy)⟩) (X':=vr.X) (Y':=vr.Y) (Int.le_refl _) ex (Int.le_refl _) ey (Int.le_refl _) (Int.le_refl _) l 0
    omega
 ·rw [show(e.kind !=1)=true by simp [hk],cond_true]
  exact pl
theorem N8 {l:List aG} {d:List Df} {c:List aQ} (hl:lW l) {kf tr pt st ch du fi lg:Int} {T:Int} {ns:List bq} {rs:List Int} {sw:List aH} (h:lA l d c T ns rs sw) (qs:List Int) {i:Int} (jd:0≤i) (hi:i<ns.length) {vr:aH} (hr:m_ vr):
  ∃nc,nG l d c kf tr pt st ch du fi lg ns qs sw i vr=some (nc,sw)∧nc.length=ns.length∧lA l d c (T+V0 l vr) nc rs sw:=by
 obtain⟨k,rfl⟩:=Int.eq_ofNat_of_zero_le jd;have hk:k<ns.length:=by omega
 obtain⟨e',q1,q2,q3,q4,q5,q6,q7⟩:=aqu hl (kf:=kf) (tr:=tr) (pt:=pt) (st:=st) (ch:=ch) (du:=du) (fi:=fi) (lg:=lg) qs sw h.nodes hk hr;have hv:=qN l vr;have hlen:=lB ns (k:Int) e';refine⟨_,q1,hlen,?_,?_,?_,h.nd,?_,?_⟩
 ·intro e he;rw [hlen];rcases List.mem_or_eq_of_mem_set he with he|he
  ·exact h.nodes e he
  ·exact he▸q2
 ·rw [hlen];exact h.len
 ·intro j hj;obtain⟨e,e1,e2⟩:=h.sk j hj;by_cases DG:j=(k:Int)
  ·subst DG;rw [dw hk] at e1;have:=Option.some.inj e1;exact⟨e',Zy jd (by omega),by rw [q3,this];exact e2⟩
  ·exact⟨e,by rw [Zw jd DG];exact e1,e2⟩
 ·rw [hlen];exact h.DQ
 ·have ht:=h.ml;unfold xL at ht⊢;have hb:((bp ns (k:Int) e').map (bw l)).sum=(ns.map (bw l)).sum+bw l e' -bw l ns[k]:=Zu (bw l) ns k e' hk
  have ho:∀j,j≠(k:Int)→ow l (bp ns (k:Int) e') j=ow l ns j:=fun j hj=>by
   unfold ow;rw [Zw jd hj]
  rw [hb];by_cases hm:(k:Int)∈rs
  ·obtain⟨e,e1,e2⟩:=h.sk _ hm;rw [dw hk] at e1;have e3:=Option.some.inj e1;have tO:ns[k].kind≠1:=by rw [e3];omega
   have hs:=Zv (ow l ns) (ow l (bp ns (k:Int) e')) (k:Int) (V0 l vr) hv ho (by
    have h0:=N7 l ns (k:Int)
    have:ow l (bp ns (k:Int) e') (k:Int)=V0 l vr:=by
     unfold ow;rw [Zy jd (by omega)];dsimp only;rw [if_pos q4,q5]
    omega) rs h.nd
   rw [q6 tO];omega
  ·have:rs.map (ow l (bp ns (k:Int) e'))=rs.map (ow l ns):=List.map_congr_left fun j hj=>ho j (fun e=>hm (e▸hj))
   rw [this];omega
theorem ZC {l:List aG} {d:List Df} {c:List aQ} (hl:lW l) {kf tr pt st ch du fi lg:Int} {T:Int} {ns:List bq} {i:Int} {t:List Int} {sw:List aH} (h:lA l d c T ns (i::t) sw) {e:bq} (e1:aK ns i=some e) (e2:e.kind=2∨e.kind=3) (hs:e.fQ=true) {f cu s:aH} (hf:m_ f) (cJ:m_ s) (hV:V0 l e.bh=V0 l f+V0 l cu+V0 l s):
  dF 32 sw [cu]=some (sw++[cu])∧∃n1,nG l d c kf tr pt st ch du fi lg ns t (sw++[cu]) e.gr f=some (n1,sw++[cu])∧∃n2,nG l d c kf tr pt st ch du fi lg n1 t (sw++[cu]) e.second s=some (n2,sw++[cu])∧n2.length=ns.length∧lA l d c T n2 t (sw++[cu]):=by
 have hlen:=h.len;have ZD:=h.DQ;have El:=List.nodup_cons.1 h.nd;rw [List.length_cons] at ZD;obtain⟨_,e3⟩:=uk e1;have N:=h.nodes e (List.mem_of_getElem? e3);obtain⟨_,r1,r2⟩:=N.rip e2
 have h0:lA l d c (T -V0 l e.bh+V0 l cu) ns t (sw++[cu]):=by
  refine⟨h.nodes,h.len,fun j hj=>h.sk j (List.mem_cons_of_mem _ hj),El.2,by rw [List.length_append];simp;omega,?_⟩;have ht:=h.ml;unfold xL at ht⊢;rw [List.map_cons,List.sum_cons] at ht
  have ho:ow l ns i=V0 l e.bh:=by
   unfold ow;rw [e1];dsimp only;rw [if_pos hs]
  rw [ho] at ht;rw [List.map_append,List.sum_append];simp only [List.map_cons,List.map_nil,List.sum_cons,List.sum_nil];omega
 obtain⟨n1,a1,a2,a3⟩:=N8 hl (kf:=kf) (tr:=tr) (pt:=pt) (st:=st) (ch:=ch) (du:=du) (fi:=fi) (lg:=lg) h0 t r1.1 r1.2 hf;obtain⟨n2,b1,b2,b3⟩:=N8 hl (kf:=kf) (tr:=tr) (pt:=pt) (st:=st) (ch:=ch) (du:=du) (fi:=fi) (lg:=lg) a3 t r2.1 (by rw [a2];exact r2.2) cJ;refine⟨np (by simp;omega) (by simp;omega),n1,a1,n2,b1,b2.trans a2,?_⟩;rw [show T -V0 l e.bh+V0 l cu+V0 l f+V0 l s=T by omega] at b3
 exact b3
theorem aqx {l:List aG} {d:List Df} {c:List aQ} (hl:lW l) {kf tr pt st ch du fi lg:Int} (hk:0≤kf∧kf≤20) {T:Int} {ns:List bq} {rs:List Int} {sw:List aH} (h:lA l d c T ns rs sw) (shift:Int):
  ∃r,tc l d c kf tr pt st ch du fi lg ns rs sw shift=some r∧r.2.1.length=ns.length∧lA l d c T r.2.1 r.2.2.1 r.2.2.2:=by
 unfold tc;cases rs with
 |nil=>exact⟨_,rfl,rfl,h⟩
 |cons i t=>
  obtain⟨e,e1,e2⟩:=h.sk i (List.mem_cons_self ..);obtain⟨_,e3⟩:=uk e1;have N:=h.nodes e (List.mem_of_getElem? e3);obtain⟨⟨a1,a2⟩,_,_⟩:=N.rip e2;have hF:=N.inF;obtain⟨g1,g2,g3,g4,g5,g6⟩:=hF
  have A8:nq (i::t) 1 (((i::t).length:Nat):Int)=some t:=by
   rw [IZ (by omega) (by simp;omega) (Int.le_refl _)];simp
  rw [show((((i::t).length:Nat):Int)==0)=false by simp;omega,cond_false,show aK (i::t) 0=some i from rfl,aT,e1,aT,A8]
  simp only [aT];by_cases ZE:e.kind=3
  ·rw [show(e.kind==3)=true by simp [ZE],cond_true,b_ (n:=e.bh.Y.a -e.at_) (by omega) (by omega),b_ (n:=e.bh.Y.b -e.at_) (by omega) (by omega)]
   by_cases t1:shift≤e.bh.Y.a -e.at_
   ·rw [decide_eq_true t1,cond_true];exact⟨_,rfl,rfl,h⟩
   rw [decide_eq_false t1,cond_false];by_cases t2:e.bh.Y.b -e.at_≤shift
   ·rw [decide_eq_true t2,cond_true];exact⟨_,rfl,rfl,h⟩
   rw [decide_eq_false t2,cond_false,b_ (n:=e.at_+shift) (by omega) (by omega),b_ (n:=e.at_+shift+kf) (by omega) (by omega)]
   have hs:e.fQ=true:=by
    cases jG:e.fQ with
    |true=>rfl
    |false=>
     have:=N.st jG;rw [this] at t1 t2;dsimp only at t1 t2;omega
   obtain⟨p1,n1,p2,n2,p3,p4,p5⟩:=ZC hl (kf:=kf) (tr:=tr) (pt:=pt) (st:=st) (ch:=ch) (du:=du) (fi:=fi) (lg:=lg) h e1 e2 hs (f:=⟨e.bh.X,⟨e.bh.Y.a,e.at_+shift⟩⟩) (cu:=⟨e.bh.X,⟨e.at_+shift,min (e.at_+shift+kf) e.bh.Y.b⟩⟩) (s:=⟨e.bh.X,⟨min (e.at_+shift+kf) e.bh.Y.b,e.bh.Y.b⟩⟩)
    ⟨g1,g2,g3,g4,by dsimp only;omega,by dsimp only;omega⟩ ⟨g1,g2,g3,by dsimp only;omega,by dsimp only;omega,g6⟩ (by
     unfold V0;dsimp only;have q1:=N4 (X:=e.bh.X) (z:=⟨0,bJ l⟩) (a:=e.bh.Y.a) (p:=e.at_+shift) (b:=e.bh.Y.b) (by omega) (by omega) l 0;have q2:=N4 (X:=e.bh.X) (z:=⟨0,bJ l⟩) (a:=e.at_+shift) (p:=min (e.at_+shift+kf) e.bh.Y.b) (b:=e.bh.Y.b) (by omega) (by omega) l 0;have q0:dS e.bh.X e.bh.Y ⟨0,bJ l⟩ l 0=dS e.bh.X ⟨e.bh.Y.a,e.bh.Y.b⟩ ⟨0,bJ l⟩ l 0:=rfl;omega)
   rw [p1,aT,p2,aT];dsimp only;rw [p3,aT];exact⟨_,rfl,p4,p5⟩
  ·rw [show(e.kind==3)=false by simp [ZE],cond_false,b_ (n:=e.bh.X.a -e.at_) (by omega) (by omega),b_ (n:=e.bh.X.b -e.at_) (by omega) (by omega)]
   by_cases t1:shift≤e.bh.X.a -e.at_
   ·rw [decide_eq_true t1,cond_true];exact⟨_,rfl,rfl,h⟩
   rw [decide_eq_false t1,cond_false];by_cases t2:e.bh.X.b -e.at_≤shift
   ·rw [decide_eq_true t2,cond_true];exact⟨_,rfl,rfl,h⟩
   rw [decide_eq_false t2,cond_false,b_ (n:=e.at_+shift) (by omega) (by omega),b_ (n:=e.at_+shift+kf) (by omega) (by omega)]
   have hs:e.fQ=true:=by
    cases jG:e.fQ with
    |true=>rfl
    |false=>
     have:=N.st jG;rw [this] at t1 t2;dsimp only at t1 t2;omega
   obtain⟨p1,n1,p2,n2,p3,p4,p5⟩:=ZC hl (kf:=kf) (tr:=tr) (pt:=pt) (st:=st) (ch:=ch) (du:=du) (fi:=fi) (lg:=lg) h e1 e2 hs (f:=⟨⟨e.bh.X.a,e.at_+shift⟩,e.bh.Y⟩) (cu:=⟨⟨e.at_+shift,min (e.at_+shift+kf) e.bh.X.b⟩,e.bh.Y⟩) (s:=⟨⟨min (e.at_+shift+kf) e.bh.X.b,e.bh.X.b⟩,e.bh.Y⟩)
    ⟨g1,by dsimp only;omega,by dsimp only;omega,g4,g5,g6⟩ ⟨by dsimp only;omega,by dsimp only;omega,g3,g4,g5,g6⟩ (by
     unfold V0;dsimp only;have q1:=N3 (Y:=e.bh.Y) (z:=⟨0,bJ l⟩) (a:=e.bh.X.a) (p:=e.at_+shift) (b:=e.bh.X.b) (by omega) (by omega) l 0;have q2:=N3 (Y:=e.bh.Y) (z:=⟨0,bJ l⟩) (a:=e.at_+shift) (p:=min (e.at_+shift+kf) e.bh.X.b) (b:=e.bh.X.b) (by omega) (by omega) l 0;have q0:dS e.bh.X e.bh.Y ⟨0,bJ l⟩ l 0=dS ⟨e.bh.X.a,e.bh.X.b⟩ e.bh.Y ⟨0,bJ l⟩ l 0:=rfl;omega)
   rw [p1,aT,p2,aT];dsimp only;rw [p3,aT];exact⟨_,rfl,p4,p5⟩
theorem aqy {l:List aG} {d:List Df} {c:List aQ} {kf tr pt st ch du fi lg:Int} {T:Int} {ns:List bq} {rs:List Int} {sw:List aH} (h:lA l d c T ns rs sw):
  (tu l d c kf tr pt st ch du fi lg ns rs sw).2.1.length=ns.length∧lA l d c T (tu l d c kf tr pt st ch du fi lg ns rs sw).2.1 (tu l d c kf tr pt st ch du fi lg ns rs sw).2.2.1 (tu l d c kf tr pt st ch du fi lg ns rs sw).2.2.2:=by
 unfold tu;cases hr:(((rs.length:Nat):Int)==0) with
 |true=>exact⟨rfl,h⟩
 |false=>
  refine⟨rfl,h.nodes,h.len,fun i hi=>(by cases hi),List.nodup_nil,?_,?_⟩
  ·have:=h.DQ;show sw.length+0≤ns.length
   omega
  ·have ht:=h.ml
   have:∀rs:List Int,0≤(rs.map (ow l ns)).sum:=fun rs=>by
    induction rs with
    |nil=>simp
    |cons r rs ih=>simp only [List.map_cons,List.sum_cons];have:=N7 l ns r;omega
   have:=this rs;show xL l ns [] sw≤T
   unfold xL at ht⊢;simp only [List.map_nil,List.sum_nil];omega
def ic (ns:List bq):List eH:=(ns.filter fun e=>e.gA).map fun e=>e.fR
theorem ZF {l:List aG} {d:List Df} {c:List aQ} {kf tr pt st ch du fi lg:Int} {ns:List bq} (hn:ns.length≤60) (rs:List Int) (sw:List aH):uM l d c kf tr pt st ch du fi lg ns rs sw=some (ic ns):=by
 unfold uM
 have:=xx (step:=fun q:List eH×Int=>ti ns q.1 q.2) ns (fun s (e:bq)=>bif e.gA then s++[e.fR] else s) [] (fun s j=>(s,(j:Int))) (fun s=>s) (fun j s=>s.length≤j) (Nat.zero_le _) (fun j s hj h=>by
   cases ns[j].gA with
   |false=>exact Nat.le_succ_of_le h
   |true=>show(s++[_]).length≤_;simp;omega) (fun s j hj h=>by
   unfold ti;dsimp only;rw [eb hj,cond_true,dw hj,aT,cC (by omega)];cases ns[j].gA with
   |false=>rfl
   |true=>
    rw [cond_true,np (by simp;omega) (by simp;omega)];rfl) (fun s _=>by
   unfold ti;dsimp only;rw [eU];rfl)
 rw [show((0:Nat):Int)=(0:Int) from rfl] at this
 rw [this,aT]
 have:∀(ns:List bq) (s:List eH),ns.foldl (fun s (e:bq)=>bif e.gA then s++[e.fR] else s) s=s++ic ns:=by
  intro ns
  induction ns with
  |nil=>intro s;simp [ic]
  |cons e ns ih=>
   intro s;rw [List.foldl_cons,ih];unfold ic;cases hg:e.gA with
   |false=>simp [hg]
   |true=>simp [hg]
 rw [this];rfl
def mr (ns:List bq) (rs:List Int):List aH:=rs.flatMap fun i=>match aK ns i with
 |some e=>if e.fQ=true then [e.bh] else []
 |none=>[]
theorem aqz {l:List aG} {d:List Df} {c:List aQ} {kf tr pt st ch du fi lg:Int} {ns:List bq} {rs:List Int} (hr:rs.length≤60) (h:∀i∈rs,∃e,aK ns i=some e) (sw:List aH):xk l d c kf tr pt st ch du fi lg ns rs sw=some (mr ns rs):=by
 unfold xk
 have:=xx (step:=fun q:List aH×Int=>tj ns rs q.1 q.2) rs (fun s (i:Int)=>s++(match aK ns i with
   |some e=>if e.fQ=true then [e.bh] else []
   |none=>[])) [] (fun s j=>(s,(j:Int))) (fun s=>s) (fun j s=>s.length≤j) (Nat.zero_le _) (fun j s hj h=>by
   rw [List.length_append];split
   ·split<;>simp<;>omega
   ·simp;omega) (fun s j hj hI=>by
   obtain⟨e,he⟩:=h _ (List.getElem_mem hj);unfold tj;dsimp only;rw [eb hj,cond_true,dw hj,aT,he,aT,cC (by omega)];dsimp only;cases hs:e.fQ with
   |false=>simp
   |true=>
    rw [cond_true,np (by simp;omega) (by simp;omega)];rfl) (fun s _=>by
   unfold tj;dsimp only;rw [eU];rfl)
 rw [show((0:Nat):Int)=(0:Int) from rfl] at this
 rw [this,aT]
 have:∀(rs:List Int) (s:List aH),rs.foldl (fun s (i:Int)=>s++(match aK ns i with
   |some e=>if e.fQ=true then [e.bh] else []
   |none=>[])) s=s++mr ns rs:=by
  intro rs
  induction rs with
  |nil=>intro s;simp [mr]
  |cons i rs ih=>
   intro s;rw [List.foldl_cons,ih,List.append_assoc];rfl
 rw [this];rfl
theorem ZG (l:List aG) (ns:List bq):∀rs:List Int,((mr ns rs).map (V0 l)).sum=(rs.map (ow l ns)).sum
 |[]=>rfl
 |i::rs=>by
  have ih:=ZG l ns rs
  have ho:(((match aK ns i with|some e=>if e.fQ=true then [e.bh] else []|none=>[])).map (V0 l)).sum=ow l ns i:=by
   unfold ow;cases aK ns i with
   |none=>rfl
   |some e=>
    dsimp only;split
    ·simp
    ·rfl
  show(((match aK ns i with|some e=>if e.fQ=true then [e.bh] else []|none=>[])++mr ns rs).map (V0 l)).sum=ow l ns i+_
  rw [List.map_append,List.sum_append,ih,ho];rfl
theorem ZH (ns:List bq):∀rs:List Int,(mr ns rs).length≤rs.length
 |[]=>Nat.le_refl _
 |i::rs=>by
  have ih:=ZH ns rs;show((match aK ns i with|some e=>if e.fQ=true then [e.bh] else []|none=>[])++mr ns rs).length≤rs.length+1
  rw [List.length_append];split
  ·split<;>simp<;>omega
  ·simp;omega
theorem pO {α:Type} {f:α→Int} (h:∀a,0≤f a):∀xs:List α,0≤(xs.map f).sum
 |[]=>Int.le_refl _
 |x::xs=>by
  have:=pO h xs;have:=h x;simp only [List.map_cons,List.sum_cons];omega
theorem N9 {α:Type} {f:α→Int} (h:∀a,0≤f a) (xs:List α) (j:Nat):((xs.take j).map f).sum≤(xs.map f).sum:=by
 have:=pO h (xs.drop j)
 conv=>rhs;rw [←List.take_append_drop j xs,List.map_append,List.sum_append]
 omega
theorem N_ {α:Type} {f:α→Int} {xs:List α} {j:Nat} (hj:j<xs.length):((xs.take (j+1)).map f).sum=((xs.take j).map f).sum+f xs[j]:=by
 rw [List.take_succ_eq_append_getElem hj,List.map_append,List.sum_append];simp
def oY (l:List aG) (tr:Int) (b:Bx):Int:=dS b.x b.y ⟨max 0 (b.z.a -tr),b.z.a⟩ l 0
def oZ (l:List aG) (tr:Int) (b:Bx):Int:=dS b.x b.y ⟨b.z.b,min (b.z.b+tr) (bJ l)⟩ l 0
theorem aqA {l:List aG} {tr:Int} (ht:0≤tr) {b:Bx} (hz:0≤b.z.a∧b.z.a<b.z.b∧b.z.b≤bJ l):jT l b+(oY l tr b+oZ l tr b)≤V0 l ⟨b.x,b.y⟩:=by
 unfold jT oY oZ V0;dsimp only;have h1:=N5 (X:=b.x) (Y:=b.y) (a:=0) (p:=b.z.a) (b:=bJ l) (by omega) (by omega) l 0;have h2:=N5 (X:=b.x) (Y:=b.y) (a:=b.z.a) (p:=b.z.b) (b:=bJ l) (by omega) (by omega) l 0;have h3:=Hh (X:=b.x) (Y:=b.y) (X':=b.x) (Y':=b.y) (z:=⟨max 0 (b.z.a -tr),b.z.a⟩) (z':=⟨0,b.z.a⟩) (Int.le_refl _) (Int.le_refl _) (Int.le_refl _) (Int.le_refl _) (by dsimp only;omega) (Int.le_refl _) l 0;have h4:=Hh (X:=b.x) (Y:=b.y) (X':=b.x) (Y':=b.y) (z:=⟨b.z.b,min (b.z.b+tr) (bJ l)⟩) (z':=⟨b.z.b,bJ l⟩) (Int.le_refl _) (Int.le_refl _) (Int.le_refl _) (Int.le_refl _) (Int.le_refl _) (by dsimp only;omega) l 0;have q0:dS b.x b.y b.z l 0=dS b.x b.y ⟨b.z.a,b.z.b⟩ l 0:=rfl;omega
theorem ZI (l:List aG):∀ns:List bq,((ic ns).map fun b=>V0 l ⟨b.a8.x,b.a8.y⟩).sum=(ns.map (bw l)).sum
 |[]=>rfl
 |e::ns=>by
  have ih:=ZI l ns;rw [List.map_cons,List.sum_cons,←ih];unfold ic bw;cases hg:e.gA with
  |false=>simp [hg]
  |true=>simp [hg]
theorem N' {l:List aG} {d:List Df} {c:List aQ} {n:Nat} {ns:List bq} (h:∀e∈ns,xK l d c n e) {b:eH} (hb:b∈ic ns):∃(j:Nat) (hj:j<c.length),b.jf=(j:Int)∧(mq l d c[j]&&acc l d c[j] b.a8)=true:=by
 unfold ic at hb;rw [List.mem_map] at hb;obtain⟨e,he,rfl⟩:=hb;rw [List.mem_filter] at he;exact(h e he.1).gv he.2
theorem ZJ (ns:List bq):(ic ns).length≤ns.length:=by
 unfold ic;rw [List.length_map];exact List.length_filter_le ..
def tF (l:List aG) (tr:Int) (y:dx) (b:eH):dx:=⟨y.Log,U (y.dY+jT l b.a8),y.gz,U (U (y.cU+oY l tr b.a8)+oZ l tr b.a8),U (y.Value+U (1000000*b.wc))⟩
theorem ZK (l:List aG) (tr M:Int) (hM:M≤4611686018427387904):∀(bs:List eH) (y:dx),0≤y.dY→0≤y.cU→y.dY+(bs.map fun b=>jT l b.a8).sum≤M→y.cU+(bs.map fun b=>oY l tr b.a8+oZ l tr b.a8).sum≤M→
  (bs.foldl (tF l tr) y).Log=y.Log∧(bs.foldl (tF l tr) y).dY=y.dY+(bs.map fun b=>jT l b.a8).sum∧(bs.foldl (tF l tr) y).cU=y.cU+(bs.map fun b=>oY l tr b.a8+oZ l tr b.a8).sum
 |[],y,_,_,_,_=>by simp
 |b::bs,y,h1,h2,h3,h4=>by
  simp only [List.map_cons,List.sum_cons,List.foldl_cons] at h3 h4⊢;have p1:0≤jT l b.a8:=nO ..;have p2:0≤oY l tr b.a8:=nO ..;have p3:0≤oZ l tr b.a8:=nO ..;have s1:=pO (f:=fun b:eH=>jT l b.a8) (fun _=>nO ..) bs;have s2:=pO (f:=fun b:eH=>oY l tr b.a8+oZ l tr b.a8) (fun b=>Int.add_nonneg (nO ..) (nO ..)) bs;have e1:(tF l tr y b).dY=y.dY+jT l b.a8:=b_ (by omega) (by omega)
  have e2:(tF l tr y b).cU=y.cU+oY l tr b.a8+oZ l tr b.a8:=by
   show U (U (y.cU+oY l tr b.a8)+oZ l tr b.a8)=_
   rw [b_ (n:=y.cU+_) (by omega) (by omega),b_ (by omega) (by omega)]
  obtain⟨q1,q2,q3⟩:=ZK l tr M hM bs (tF l tr y b) (by omega) (by omega) (by omega) (by omega);exact⟨q1,by omega,by omega⟩
theorem DR {l:List aG} (hS:kI l) (hc:jj l=some 0) {d:List Df} {c:List aQ} {kf tr pt st ch du fi lg:Int} (ns:List bq) (rs:List Int) (sw:List aH) (r:aH) (z:Sp):qx l d c kf tr pt st ch du fi lg ns rs sw r z=some (dS r.X r.Y z l 0):=by
 unfold qx;rw [NH hS hc];rfl
theorem aqB {l:List aG} (hS:kI l) (hc:jj l=some 0) {d:List Df} {c:List aQ} {kf tr pt st ch du fi:Int} (A4:0≤tr∧tr≤1000000) {ns:List bq} {rs:List Int} {sw:List aH} (h:lA l d c (fV l) ns rs sw):
  ∃y n,uN l d c kf tr pt st ch du fi (bJ l) ns rs sw=some (y,n)∧y.Log=fV l∧y.dY=((ic ns).map fun b=>jT l b.a8).sum∧0≤y.gz∧0≤y.cU∧0≤n∧y.Log=y.dY+y.gz+y.cU+n∧0≤y.dY∧fV l≤691200000000:=by
 have hlen:=h.len;have ZD:=h.DQ;have u7:=Hi l (AI hS);have hl:=hS.len;have vH:=Hg hS;have uY:=h.ml;unfold xL at uY;have oN:=pO (N7 l ns) rs;have bN:=pO (Zt l) ns;have sN:=pO (qN l) sw
 have each:∀b∈ic ns,jT l b.a8+(oY l tr b.a8+oZ l tr b.a8)≤V0 l ⟨b.a8.x,b.a8.y⟩:=fun b hb=>by
  obtain⟨j,hj,_,q⟩:=N' h.nodes hb;rw [Bool.and_eq_true] at q;exact aqA A4.1 (Hj q.2).2.2
 have aqC:∀bs:List eH,(∀b∈bs,jT l b.a8+(oY l tr b.a8+oZ l tr b.a8)≤V0 l ⟨b.a8.x,b.a8.y⟩)→(bs.map fun b=>jT l b.a8).sum+(bs.map fun b=>oY l tr b.a8+oZ l tr b.a8).sum≤(bs.map fun b=>V0 l ⟨b.a8.x,b.a8.y⟩).sum:=by
  intro bs
  induction bs with
  |nil=>intro _;simp
  |cons b bs ih=>
   intro hb;have:=ih fun b h=>hb b (List.mem_cons_of_mem _ h)
   have:=hb b (List.mem_cons_self ..);simp only [List.map_cons,List.sum_cons];omega
 have aqD:=aqC _ each;rw [ZI] at aqD;have s1:=pO (f:=fun b:eH=>jT l b.a8) (fun _=>nO ..) (ic ns);have s2:=pO (f:=fun b:eH=>oY l tr b.a8+oZ l tr b.a8) (fun b=>Int.add_nonneg (nO ..) (nO ..)) (ic ns);unfold uN;rw [Zq hS hc,aT]
 have L1:=kZ (step:=fun q:Int×dx=>rL l d c kf tr pt st ch du fi (bJ l) ns rs sw q.1 q.2) (fun j=>((j:Int),(⟨fV l,0,0,((sw.take j).map (V0 l)).sum,0⟩:dx))) sw.length (y:=(⟨fV l,0,0,(sw.map (V0 l)).sum,0⟩:dx)) (fun j hj=>by
  have t1:=pO (qN l) (sw.take j);have t2:=N9 (qN l) sw (j+1);have t3:=N_ (f:=V0 l) hj;have t4:=qN l sw[j];unfold rL;dsimp only;rw [eb hj,cond_true,dw hj,aT,DR hS hc,aT,cC (by omega),t3];unfold V0 at*
  rw [b_ (n:=_+_) (by omega) (by omega)]) (by
  unfold rL;dsimp only;rw [eU,List.take_length];rfl)
 have L1:bR (fun q:Int×dx=>rL l d c kf tr pt st ch du fi (bJ l) ns rs sw q.1 q.2) (0,(⟨fV l,0,0,0,0⟩:dx))=some (⟨fV l,0,0,(sw.map (V0 l)).sum,0⟩:dx):=L1;rw [L1,aT,ZF hlen,aT];have bl:=ZJ ns
 have L2:=xx (step:=fun q:Int×dx=>rM l d c kf tr pt st ch du fi (bJ l) ns rs sw (ic ns) q.1 q.2) (ic ns) (tF l tr) (⟨fV l,0,0,(sw.map (V0 l)).sum,0⟩:dx) (fun s j=>((j:Int),s)) (fun s=>s) (fun _ _=>True) trivial (fun _ _ _ _=>trivial) (fun s j hj _=>by
  obtain⟨i,hi,_,q⟩:=N' h.nodes (List.getElem_mem hj);rw [Bool.and_eq_true] at q;have hz:=(Hj q.2).2.2;unfold rM CC CD;dsimp only;rw [eb hj,cond_true,dw hj,aT,DR hS hc,aT];simp only [jt];rw [DR hS hc,aT,DR hS hc,aT,aT,aT,cC (by omega),b_ (n:=_ -tr) (by omega) (by omega),b_ (n:=_+tr) (by omega) (by omega)];rfl) (fun s _=>by
  unfold rM;dsimp only;rw [eU];rfl)
 have L2:bR (fun q:Int×dx=>rM l d c kf tr pt st ch du fi (bJ l) ns rs sw (ic ns) q.1 q.2) (0,(⟨fV l,0,0,(sw.map (V0 l)).sum,0⟩:dx))=some ((ic ns).foldl (tF l tr) (⟨fV l,0,0,(sw.map (V0 l)).sum,0⟩:dx)):=L2;rw [L2,aT];obtain⟨F1,F2,F3⟩:=ZK l tr (fV l) (by omega) (ic ns) (⟨fV l,0,0,(sw.map (V0 l)).sum,0⟩:dx) (Int.le_refl _) sN (by dsimp only;omega) (by dsimp only;omega);generalize(ic ns).foldl (tF l tr) (⟨fV l,0,0,(sw.map (V0 l)).sum,0⟩:dx)=y3 at F1 F2 F3;dsimp only at F1 F2 F3;have hrl:rs.length≤60:=by omega
 rw [aqz hrl (fun i hi=>by obtain⟨e,he,_⟩:=h.sk i hi;exact⟨e,he⟩),aT];have rl:=ZH ns rs;have aqF:=ZG l ns rs
 have L3:=kZ (step:=fun q:Int×Int=>rN l d c kf tr pt st ch du fi (bJ l) ns rs sw (mr ns rs) q.1 q.2) (fun j=>((((mr ns rs).take j).map (V0 l)).sum,(j:Int))) (mr ns rs).length (y:=((mr ns rs).map (V0 l)).sum) (fun j hj=>by
  have t1:=pO (qN l) ((mr ns rs).take j);have t2:=N9 (qN l) (mr ns rs) (j+1);have t3:=N_ (f:=V0 l) hj;have t4:=qN l (mr ns rs)[j];unfold rN;dsimp only;rw [eb hj,cond_true,dw hj,aT,DR hS hc,aT,cC (by omega),t3];unfold V0 at*
  rw [b_ (n:=_+_) (by omega) (by omega)]) (by
  unfold rN;dsimp only;rw [eU,List.take_length];rfl)
 have L3:bR (fun q:Int×Int=>rN l d c kf tr pt st ch du fi (bJ l) ns rs sw (mr ns rs) q.1 q.2) (0,0)=some ((mr ns rs).map (V0 l)).sum:=L3;rw [L3,aT,aqF];refine⟨_,_,rfl,F1,by dsimp only;omega,?_,?_,oN,?_,?_,by omega⟩;all_goals dsimp only
 ·rw [b_ (n:=y3.Log -y3.dY) (by omega) (by omega),b_ (n:=y3.Log -y3.dY -y3.cU) (by omega) (by omega),b_ (by omega) (by omega)];omega
 ·omega
 ·rw [b_ (n:=y3.Log -y3.dY) (by omega) (by omega),b_ (n:=y3.Log -y3.dY -y3.cU) (by omega) (by omega),b_ (by omega) (by omega)];omega
 ·omega
theorem DS (k:Int):gh k=true↔(k=2∨k=3):=by
 unfold gh;by_cases h:k=2
 ·subst h;simp
 ·rw [show(k==2)=false by simp [h],cond_false]
  simp [h]
def gD (N:List eL):Nat→Int
 |0=>1
 |k+1=>gD N k+match N[k]?with
  |some n=>if gh n.Kind=true then 1 else-1
  |none=>-1
theorem Oa {N:List eL} {k:Nat} (hk:k<N.length):gD N (k+1)=gD N k+if gh N[k].Kind=true then 1 else-1:=by
 show gD N k+_=_
 rw [List.getElem?_eq_getElem hk]
theorem ZL (N:List eL):∀k,gD N k≤1+k
 |0=>Int.le_refl _
 |k+1=>by
  have:=ZL N k;show gD N k+_≤_
  split
  ·split<;>omega
  ·omega
theorem aqG (N:List eL) (k:Nat):gD N (k+1)=gD N k+1∨gD N (k+1)=gD N k -1:=by
 show gD N k+_=_∨gD N k+_=_
 split
 ·split
  ·exact .inl rfl
  ·exact .inr rfl
 ·exact .inr rfl
theorem aqH {α:Type} {xs:List α} (h:xs≠[]):aK xs ((((xs.length:Nat):Int)) -1)=some (xs.getLast h)∧kF xs ((((xs.length:Nat):Int)) -1)=some xs.dropLast:=by
 have hl:=List.length_pos_iff.2 h;constructor
 ·rw [show(((xs.length:Nat):Int)) -1=((xs.length -1:Nat):Int) by omega,dw (by omega),List.getLast_eq_getElem]
 ·unfold kF;rw [decide_eq_true (by omega),decide_eq_true (by omega),show((((xs.length:Nat):Int)) -1).toNat=xs.length -1 by omega,List.dropLast_eq_take]
  rfl
theorem ZN {S R:Type} {p:dq} {kerf:Int} (hn:p.aV.length≤127) (body:Int→dm→S→Option (S⊕R)) (Inv:Nat→S→Prop) (AP:aH→Prop) (GR:R→Prop) (step:List dm×Int×S→Option ((List dm×Int×S)⊕(S⊕R)))
  (u9:∀st i s,step (st,i,s)=(bif(decide (0<((st.length:Nat):Int))) then(β (aK st (U (((st.length:Nat):Int) -1))) (fun e=>(β (kF st (U (((st.length:Nat):Int) -1))) (fun l=>(β (body i e s) (fun z=>Sum.elim (fun vv=>(bif(decide (((p.aV.length:Nat):Int)≤i)) then some (ι (κ vv)) else(β (aK p.aV i) (fun e2=>(bif(gh e2.Kind) then(cH (kS e.bh e2 kerf) (fun pv=>(β (dF 40 l ([(⟨pv.2.2,U (e.level+1)⟩:dm),(⟨pv.1,U (e.level+1)⟩:dm)])) (fun l1=>some (κ (l1,U (i+1),vv)))))) else some (κ (l,U (i+1),vv))))))) (fun aB=>some (ι (ι aB))) z)))))) else some (ι (κ s))))
  (hb:∀(k:Nat) (x:dm) (s:S),k≤p.aV.length→Inv k s→AP x.bh→0<gD p.aV k→(∃r,body (k:Int) x s=some (.inr r)∧GR r)∨∃s',body (k:Int) x s=some (.inl s')∧∃hk:k<p.aV.length,Inv (k+1) s'∧(gh p.aV[k].Kind=true→AP (kS x.bh p.aV[k] kerf).1∧AP (kS x.bh p.aV[k] kerf).2.2))
  (s0:S) (h0:Inv 0 s0) (hF:AP p.Frame):
  ∃y,bR step ([(⟨p.Frame,1⟩:dm)],0,s0)=some y∧((∃s k,y=.inl s∧k≤p.aV.length∧gD p.aV k=0∧(∀j,j<k→0<gD p.aV j)∧Inv k s)∨∃r,y=.inr r∧GR r):=by
 refine uj (step:=step) (fun x=>∃k:Nat,x.2.1=(k:Int)∧k≤p.aV.length∧((x.1.length:Nat):Int)=gD p.aV k∧(∀q∈x.1,AP q.bh)∧(∀j,j<k→0<gD p.aV j)∧Inv k x.2.2) (fun x=>p.aV.length -x.2.1.toNat) (fun y=>((∃s k,y=.inl s∧k≤p.aV.length∧gD p.aV k=0∧(∀j,j<k→0<gD p.aV j)∧Inv k s)∨∃r,y=.inr r∧GR r)) ?_ ([(⟨p.Frame,1⟩:dm)],0,s0) ⟨0,rfl,Nat.zero_le _,rfl,fun q hq=>by rw [List.mem_singleton] at hq;rw [hq];exact hF,fun j hj=>absurd hj (by omega),h0⟩;rintro⟨st,i,s⟩ ⟨k,hi,hk,hl,hS,hj,hI⟩;dsimp only at hi hl hS hI;subst hi;rw [u9];by_cases he:st=[]
 ·subst he;refine .inr ⟨_,rfl,.inl ⟨s,k,rfl,hk,hl.symm,hj,hI⟩⟩
 ·obtain⟨g1,g2⟩:=aqH he;have hlp:=List.length_pos_iff.2 he;have yR:=ZL p.aV k;rw [decide_eq_true (by omega),cond_true,b_ (n:=_ -1) (by omega) (by omega),g1,g2];simp only [aT];have hx:=hS _ (List.getLast_mem he);rcases hb k (st.getLast he) s hk hI hx (by omega) with⟨r,r1,r2⟩|⟨s',r1,fB,r2,r3⟩
  ·rw [r1];exact .inr ⟨_,rfl,.inr ⟨r,rfl,r2⟩⟩
  ·rw [r1,aT,Sum.elim_inl,decide_eq_false (by omega),cond_false,dw fB,aT,cC (by omega)];have r8:=Oa fB;have Zg:((st.dropLast.length:Nat):Int)=gD p.aV k -1:=by rw [List.length_dropLast];omega
   have hd:∀q∈st.dropLast,AP q.bh:=fun q hq=>hS q (List.dropLast_subset _ hq)
   have G6:∀j,j<k+1→0<gD p.aV j:=fun j h=>by
    by_cases e:j=k
    ·subst e;omega
    ·exact hj j (by omega)
   cases hr:gh p.aV[k].Kind with
   |true=>
    rw [hr,if_pos rfl] at r8;obtain⟨q1,q2⟩:=r3 hr;rw [cond_true,jt,np (by simp only [List.length_cons,List.length_nil];omega) (by simp only [List.length_cons,List.length_nil];omega),aT];refine .inl ⟨_,rfl,⟨k+1,rfl,fB,?_,fun q hq=>?_,G6,r2⟩,?_⟩
    ·dsimp only;rw [List.length_append,List.length_cons,List.length_cons,List.length_nil];omega
    ·rcases List.mem_append.1 hq with hq|hq
     ·exact hd q hq
     ·rcases List.mem_cons.1 hq with rfl|hq
      ·exact q2
      ·rw [List.mem_singleton] at hq;rw [hq];exact q1
    ·dsimp only;omega
   |false=>
    rw [hr,if_neg (by simp)] at r8;rw [cond_false];refine .inl ⟨_,rfl,⟨k+1,rfl,fB,?_,hd,G6,r2⟩,?_⟩
    ·dsimp only;omega
    ·dsimp only;omega
theorem aqI (r:aH):∃b,sU r=some b∧(b=true→(-600≤r.X.a∧r.X.a<r.X.b∧r.X.b≤600)∧(-600≤r.Y.a∧r.Y.a<r.Y.b∧r.Y.b≤600)):=by
 have st:∀(v:Int) (s:Sp),aK [r.X,r.Y] v=some s→0≤v∧v<2→(nE r v=some (.inr (.inl false))∨(nE r v=some (.inl (v+1))∧-600≤s.a∧s.a<s.b∧s.b≤600)):=by
  intro v s hs hv;unfold nE;rw [decide_eq_true hv.2,cond_true,hs,aT];by_cases h1:s.a< -600
  ·rw [decide_eq_true h1];exact .inl rfl
  rw [decide_eq_false h1,cond_false];by_cases h2:600<s.b
  ·rw [decide_eq_true h2];exact .inl rfl
  rw [decide_eq_false h2,cond_false];by_cases h3:s.b≤s.a
  ·rw [decide_eq_true h3];exact .inl rfl
  rw [decide_eq_false h3,cond_false,b_ (by omega) (by omega)];exact .inr ⟨rfl,by omega,by omega,by omega⟩
 unfold sU;rcases st 0 r.X rfl ⟨by omega,by omega⟩ with h|⟨h,a1⟩
 ·rw [gQ (step:=fun q=>nE r q) h];exact⟨false,rfl,fun h=>by cases h⟩
 ·rw [nm (step:=fun q=>nE r q) h];rcases st 1 r.Y rfl ⟨by omega,by omega⟩ with h|⟨h,a2⟩
  ·rw [show(0:Int)+1=1 from rfl,gQ (step:=fun q=>nE r q) h]
   exact⟨false,rfl,fun h=>by cases h⟩
  ·rw [show(0:Int)+1=1 from rfl,nm (step:=fun q=>nE r q) h,gQ (step:=fun q=>nE r q) (y:=.inr ()) rfl]
   exact⟨true,rfl,fun _=>⟨a1,a2⟩⟩
theorem aqJ {n:eL} {x:dm} (h:fI n x=0):0≤n.Kind∧n.Kind≤3∧(gh n.Kind=true→(pB x.bh n.Kind).a<n.At∧n.At<(pB x.bh n.Kind).b):=by
 unfold fI at h;rw [jt] at h;by_cases h1:n.Kind<0
 ·rw [decide_eq_true h1] at h;cases h
 by_cases h2:3<n.Kind
 ·rw [decide_eq_false h1,decide_eq_true h2] at h;cases h
 refine⟨by omega,by omega,fun hr=>?_⟩;have h0:n.Kind≠0:=by rw [DS] at hr;omega
 rw [decide_eq_false h1,decide_eq_false h2,show(n.Kind==0)=false by simp [h0]] at h
 simp only [cond_false,Sum.elim_inr,jt] at h;by_cases h3:64<x.level
 ·rw [decide_eq_true h3] at h;cases h
 rw [decide_eq_false h3,cond_false,hr,cond_true] at h;by_cases h4:n.At≤(pB x.bh n.Kind).a
 ·rw [decide_eq_true h4] at h;cases h
 rw [decide_eq_false h4,cond_false] at h;by_cases h5:(pB x.bh n.Kind).b≤n.At
 ·rw [decide_eq_true h5] at h;cases h
 omega
theorem aqK {r:aH} {n:eL} {kerf:Int} (hk:0≤kerf∧kerf≤20) (hr:m_ r) (h:(pB r n.Kind).a<n.At∧n.At<(pB r n.Kind).b):(-600<n.At∧n.At<600)∧m_ (kS r n kerf).1∧m_ (kS r n kerf).2.2:=by
 obtain⟨g1,g2,g3,g4,g5,g6⟩:=hr;unfold kS;simp only [jt];unfold pB at h;unfold pB zi;cases kh:(n.Kind==2) with
 |true=>
  rw [kh,cond_true] at h;simp only [cond_true];rw [b_ (n:=n.At+kerf) (by omega) (by omega)];exact⟨by omega,⟨g1,by dsimp only;omega,by dsimp only;omega,g4,g5,g6⟩,⟨by dsimp only;omega,by dsimp only;omega,g3,g4,g5,g6⟩⟩
 |false=>
  rw [kh,cond_false] at h;simp only [cond_false];rw [b_ (n:=n.At+kerf) (by omega) (by omega)];exact⟨by omega,⟨g1,g2,g3,g4,by dsimp only;omega,by dsimp only;omega⟩,⟨g1,g2,g3,by dsimp only;omega,by dsimp only;omega,g6⟩⟩
def Ob (m:Int) (n:eL):Prop:=0≤n.Kind∧n.Kind≤3∧(gh n.Kind=true→-600<n.At∧n.At<600)∧(n.Kind=1→0≤n.At∧n.At<m)
theorem aqL (r:aH) (v:Int) (c:List aQ):∃e,uD r v c=some e∧(e=0→0≤v∧v<c.length):=by
 unfold uD;by_cases h1:v<0
 ·rw [decide_eq_true h1];exact⟨8,rfl,fun h=>by cases h⟩
 rw [decide_eq_false h1,cond_false];by_cases h2:((c.length:Nat):Int)≤v
 ·rw [decide_eq_true h2];exact⟨8,rfl,fun h=>by cases h⟩
 rw [decide_eq_false h2,cond_false];obtain⟨j,rfl⟩:=Int.eq_ofNat_of_zero_le (show 0≤v by omega)
 rw [dw (show j<c.length by omega),aT,jt]
 have fin:∀o:Option Int,(∃e,o=some e)→∃e,o=some e∧(e=0→0≤(j:Int)∧(j:Int)<c.length):=fun o ⟨e,he⟩=>⟨e,he,fun _=>⟨by omega,by omega⟩⟩
 refine fin _ ?_;cases(fH r.X !=(jn c[j]).1)<;>cases(fH r.X !=(jn c[j]).2)<;>cases(fH r.Y !=(jn c[j]).1)<;>cases(fH r.Y !=(jn c[j]).2)<;>exact⟨_,rfl⟩
theorem aqM {p:dq} {kerf m:Int} (Oc:0≤kerf∧kerf≤20) {brd:aH→Int→Option Int} (Od:∀r v,∃e,brd r v=some e∧(e=0→0≤v∧v<m)) {k:Nat} {x:dm} {w w1:Int} (hx:m_ x.bh) (hn:p.aV.length≤127) {o:Option ((Int×Int)⊕(Int×Int))}
  (ho:o=(bif(decide (((p.aV.length:Nat):Int)≤(k:Int))) then some (ι (3,w1)) else(β (aK p.aV (k:Int)) (fun e=>(bif((fI e x)==0) then(bif(e.Kind==1) then(β (brd x.bh e.At) (fun cv=>(bif(cv !=0) then some (ι (cv,w1)) else some (κ (w,U ((k:Int)+1)))))) else(bif((fI e x)!=0) then some (ι ((fI e x),w1)) else some (κ (w,U ((k:Int)+1))))) else(bif((fI e x)!=0) then some (ι ((fI e x),w1)) else some (κ (w,U ((k:Int)+1))))))))):
  (∃r,o=some (.inr r)∧r.1≠0)∨∃s',o=some (.inl s')∧∃hk:k<p.aV.length,(s'.1=w∧s'.2=((k+1:Nat):Int))∧Ob m p.aV[k]∧(gh p.aV[k].Kind=true→m_ (kS x.bh p.aV[k] kerf).1∧m_ (kS x.bh p.aV[k] kerf).2.2):=by
 subst ho;by_cases hk:p.aV.length≤k
 ·rw [decide_eq_true (by omega),cond_true];exact .inl ⟨_,rfl,by simp⟩
 ·have hk:k<p.aV.length:=by omega
  rw [decide_eq_false (by omega),cond_false,dw hk,aT,cC (by omega)];by_cases hz:fI p.aV[k] x=0
  ·obtain⟨f1,f2,f3⟩:=aqJ hz;have nP:gh p.aV[k].Kind=true→(-600<p.aV[k].At∧p.aV[k].At<600)∧m_ (kS x.bh p.aV[k] kerf).1∧m_ (kS x.bh p.aV[k] kerf).2.2:=fun hr=>aqK Oc hx (f3 hr)
   rw [hz,show((0:Int)==0)=true from rfl,cond_true,show((0:Int)!=0)=false from rfl,cond_false]
   by_cases h1:p.aV[k].Kind=1
   ·rw [show(p.aV[k].Kind==1)=true by simp [h1],cond_true]
    obtain⟨e,e1,e2⟩:=Od x.bh p.aV[k].At;rw [e1,aT];by_cases he:e=0
    ·subst he;exact .inr ⟨_,rfl,hk,⟨rfl,rfl⟩,⟨f1,f2,fun h=>(nP h).1,fun _=>e2 rfl⟩,fun h=>(nP h).2⟩
    ·rw [kc he,cond_true];exact .inl ⟨_,rfl,he⟩
   ·rw [show(p.aV[k].Kind==1)=false by simp [h1],cond_false]
    exact .inr ⟨_,rfl,hk,⟨rfl,rfl⟩,⟨f1,f2,fun h=>(nP h).1,fun h=>absurd h h1⟩,fun h=>(nP h).2⟩
  ·rw [show(fI p.aV[k] x==0)=false by simp [hz],cond_false,kc hz,cond_true]
   exact .inl ⟨_,rfl,hz⟩
structure DT (p:dq) (m:Int):Prop where
 frame:(-600≤p.Frame.X.a∧p.Frame.X.a<p.Frame.X.b∧p.Frame.X.b≤600)∧(-600≤p.Frame.Y.a∧p.Frame.Y.a<p.Frame.Y.b∧p.Frame.Y.b≤600)
 pos:∀j,j<p.aV.length→0<gD p.aV j
 zero:gD p.aV p.aV.length=0
 fact:∀(j:Nat) (hj:j<p.aV.length),Ob m p.aV[j]
theorem ZO {r:aH} (h:(-600≤r.X.a∧r.X.a<r.X.b∧r.X.b≤600)∧(-600≤r.Y.a∧r.Y.a<r.Y.b∧r.Y.b≤600)):m_ r:=⟨by omega,by omega,by omega,by omega,by omega,by omega⟩
theorem ZP {p:dq} {kerf m:Int} {brd:aH→Int→Option Int} (Od:∀r v,∃e,brd r v=some e∧(e=0→0≤v∧v<m)) {o:Option Int} {body:Int→dm→Int×Int→Option ((Int×Int)⊕(Int×Int))} {step:List dm×Int×Int×Int→Option ((List dm×Int×Int×Int)⊕((Int×Int)⊕(Int×Int)))}
  (Io:∀i x s,body i x s=(bif(decide (((p.aV.length:Nat):Int)≤i)) then some (ι (3,s.2)) else(β (aK p.aV i) (fun e=>(bif((fI e x)==0) then(bif(e.Kind==1) then(β (brd x.bh e.At) (fun cv=>(bif(cv !=0) then some (ι (cv,s.2)) else some (κ (s.1,U (i+1)))))) else(bif((fI e x)!=0) then some (ι ((fI e x),s.2)) else some (κ (s.1,U (i+1))))) else(bif((fI e x)!=0) then some (ι ((fI e x),s.2)) else some (κ (s.1,U (i+1)))))))))
  (u9:∀st i s,step (st,i,s)=(bif(decide (0<((st.length:Nat):Int))) then(β (aK st (U (((st.length:Nat):Int) -1))) (fun e=>(β (kF st (U (((st.length:Nat):Int) -1))) (fun l=>(β (body i e s) (fun z=>Sum.elim (fun vv=>(bif(decide (((p.aV.length:Nat):Int)≤i)) then some (ι (κ vv)) else(β (aK p.aV i) (fun e2=>(bif(gh e2.Kind) then(cH (kS e.bh e2 kerf) (fun pv=>(β (dF 40 l ([(⟨pv.2.2,U (e.level+1)⟩:dm),(⟨pv.1,U (e.level+1)⟩:dm)])) (fun l1=>some (κ (l1,U (i+1),vv)))))) else some (κ (l,U (i+1),vv))))))) (fun aB=>some (ι (ι aB))) z)))))) else some (ι (κ s))))
  (ho:o=(β (sU p.Frame) (fun iv=>(bif(!iv) then some 19 else(bif(decide (kerf<0)) then some 9 else(bif(decide (20<kerf)) then some 9 else(bif(decide (127<((p.aV.length:Nat):Int))) then some 4 else(β (bR step ([(⟨p.Frame,1⟩:dm)],0,0,0)) (fun vz=>Sum.elim (fun dU=>(bif(decide (dU.2<((p.aV.length:Nat):Int))) then some 4 else some 0)) (fun gy=>some gy.1) vz))))))))):
  ∃e,o=some e∧(e=0→DT p m):=by
 subst ho;obtain⟨b,b1,b2⟩:=aqI p.Frame;rw [b1,aT];cases b with
 |false=>exact⟨19,rfl,fun h=>by cases h⟩
 |true=>
 rw [Bool.not_true,cond_false];by_cases h1:kerf<0
 ·rw [decide_eq_true h1];exact⟨9,rfl,fun h=>by cases h⟩
 rw [decide_eq_false h1,cond_false];by_cases h2:20<kerf
 ·rw [decide_eq_true h2];exact⟨9,rfl,fun h=>by cases h⟩
 rw [decide_eq_false h2,cond_false];by_cases h3:127<p.aV.length
 ·rw [decide_eq_true (by omega)];exact⟨4,rfl,fun h=>by cases h⟩
 rw [decide_eq_false (by omega),cond_false]
 obtain⟨y,y1,y2⟩:=ZN (kerf:=kerf) (by omega) body (fun k s=>s=(0,(k:Int))∧∀(j:Nat) (hj:j<p.aV.length),j<k→Ob m p.aV[j]) m_ (fun r=>r.1≠0) step u9 (fun k x s hk hI hx hp=>by
  obtain⟨rfl,hf⟩:=hI;rcases aqM (p:=p) (kerf:=kerf) ⟨by omega,by omega⟩ Od (k:=k) (w:=0) (w1:=(k:Int)) hx (by omega) (Io (k:Int) x (0,(k:Int))) with h|⟨s',q1,q2,q3,q4,q5⟩
  ·exact .inl h
  ·refine .inr ⟨s',q1,q2,⟨?_,fun j hj DG=>?_⟩,q5⟩
   ·obtain⟨a,b⟩:=s';dsimp only at q3;rw [q3.1,q3.2]
   ·by_cases e:j=k
    ·subst e;exact q4
    ·exact hf j hj (by omega)) (0,0) ⟨rfl,fun j hj h=>absurd h (by omega)⟩ (ZO (b2 rfl))
 rw [y1,aT];rcases y2 with⟨s,k,rfl,k1,k2,k3,rfl,k4⟩|⟨r,rfl,k1⟩
 ·rw [Sum.elim_inl];by_cases hk:k<p.aV.length
  ·rw [decide_eq_true (by dsimp only;omega)];exact⟨4,rfl,fun h=>by cases h⟩
  ·have e:k=p.aV.length:=by omega
   subst e;rw [decide_eq_false (by dsimp only;omega)];exact⟨0,rfl,fun _=>⟨b2 rfl,k3,k2,fun j hj=>k4 j hj hj⟩⟩
 ·exact⟨r.1,rfl,fun h=>absurd h k1⟩
theorem aqN (p:dq) (kerf:Int) (c:List aQ):∃e,zl p kerf c=some e∧(e=0→DT p c.length):=
 ZP (brd:=fun r v=>uD r v c) (fun r v=>aqL r v c) (body:=fun i x s=>Cu p c s.1 s.2 i x) (step:=fun q=>wT p kerf c q.1 q.2.1 q.2.2.1 q.2.2.2) (fun _ _ _=>rfl) (fun _ _ _=>rfl) rfl
theorem aqO (r:aH) (v:Int):∃e,(some (rC r v):Option Int)=some e∧(e=0→0≤v∧v<16):=by
 refine⟨_,rfl,fun h=>?_⟩;unfold rC at h;by_cases h1:v<0
 ·rw [decide_eq_true h1] at h;cases h
 rw [decide_eq_false h1,cond_false] at h;by_cases h2:16≤v
 ·rw [decide_eq_true h2] at h;cases h
 omega
theorem aqP (p:dq) (kerf:Int):∃e,zj p kerf=some e∧(e=0→DT p 16):=
 ZP (brd:=fun r v=>some (rC r v)) (fun r v=>aqO r v) (body:=fun i x s=>Cr p s.1 s.2 i x) (step:=fun q=>wR p kerf q.1 q.2.1 q.2.2.1 q.2.2.2) (fun _ _ _=>rfl) (fun _ _ _=>rfl) rfl
def o4 (N:List eL):Nat→Nat
 |0=>0
 |k+1=>o4 N k+match N[k]?with
  |some n=>if gh n.Kind=true then 0 else 1
  |none=>0
theorem ZQ {N:List eL} {k:Nat} (hk:k<N.length):o4 N (k+1)=o4 N k+if gh N[k].Kind=true then 0 else 1:=by
 show o4 N k+_=_
 rw [List.getElem?_eq_getElem hk]
theorem Oe (N:List eL):∀k,o4 N k≤k
 |0=>Nat.le_refl _
 |k+1=>by
  have:=Oe N k;show o4 N k+_≤_
  split
  ·split<;>omega
  ·omega
theorem ZR (N:List eL) (j:Nat):∀d,o4 N j≤o4 N (j+d)
 |0=>Nat.le_refl _
 |d+1=>Nat.le_trans (ZR N j d) (Nat.le_add_right ..)
theorem aqQ {p:dq} {kerf m:Int} (hP:DT p m) (hn:p.aV.length≤60):∃o,wW p kerf=some o∧(o.2=0→o.1.length=o4 p.aV p.aV.length):=by
 obtain⟨e,e1,_⟩:=aqP p kerf;unfold wW;rw [e1,aT];by_cases he:e=0
 ·subst he;rw [show((0:Int)!=0)=false from rfl,cond_false]
  obtain⟨y,y1,y2⟩:=ZN (p:=p) (kerf:=kerf) (by omega) (fun i x s=>zo p s i x) (fun k (s:List eQ)=>s.length=o4 p.aV k) (fun _=>True) (fun _:List eQ=>False) (fun q=>wV p kerf q.1 q.2.1 q.2.2) (fun _ _ _=>rfl) (fun k x s hk hI _ hp=>by
   have AQ:k<p.aV.length:=by
    by_cases e:k=p.aV.length
    ·subst e;rw [hP.zero] at hp;omega
    ·omega
   have hle:=Oe p.aV k;have hs:=ZQ AQ;obtain⟨f1,f2,_,_⟩:=hP.fact k AQ;refine .inr ?_;unfold zo;rw [dw AQ,aT];by_cases k0:p.aV[k].Kind=0
   ·have hr:gh p.aV[k].Kind=false:=by rw [k0];rfl
    rw [hr,if_neg (by simp)] at hs;rw [show(p.aV[k].Kind==0)=true by simp [k0],cond_true,np (by simp only [List.length_cons,List.length_nil];omega) (by simp only [List.length_cons,List.length_nil];omega),aT]
    exact⟨_,rfl,AQ,by rw [List.length_append,List.length_cons,List.length_nil];omega,fun _=>⟨trivial,trivial⟩⟩
   ·rw [show(p.aV[k].Kind==0)=false by simp [k0],cond_false]
    by_cases k1:p.aV[k].Kind=1
    ·have hr:gh p.aV[k].Kind=false:=by rw [k1];rfl
     rw [hr,if_neg (by simp)] at hs;rw [show(p.aV[k].Kind==1)=true by simp [k1],cond_true,np (by simp only [List.length_cons,List.length_nil];omega) (by simp only [List.length_cons,List.length_nil];omega),aT]
     exact⟨_,rfl,AQ,by rw [List.length_append,List.length_cons,List.length_nil];omega,fun _=>⟨trivial,trivial⟩⟩
    ·have hr:gh p.aV[k].Kind=true:=by rw [DS];omega
     rw [hr,if_pos rfl] at hs;rw [show(p.aV[k].Kind==1)=false by simp [k1],cond_false]
     exact⟨_,rfl,AQ,by omega,fun _=>⟨trivial,trivial⟩⟩) [] rfl trivial
  rw [y1,aT];rcases y2 with⟨s,k,rfl,k1,k2,k3,k4⟩|⟨r,_,h⟩
  ·refine⟨_,rfl,fun _=>?_⟩
   have:k=p.aV.length:=by
    by_cases e:k<p.aV.length
    ·have:=hP.pos k e;omega
    ·omega
   subst this;exact k4
  ·exact h.elim
 ·rw [kc he];exact⟨_,rfl,fun h=>absurd h he⟩
def ret (N:List eL) (i j:Nat):Prop:=i<j∧j≤N.length∧(∀k,i≤k→k<j→gD N i≤gD N k)∧gD N j=gD N i -1
theorem ZS (N:List eL) (c:Int):∀(d a j:Nat),j -a≤d→a<j→c+1≤gD N a→gD N j≤c→∃m,a<m∧m≤j∧gD N m=c∧∀k,a≤k→k<m→c+1≤gD N k
 |0,a,j,h,h2,_,_=>absurd h2 (by omega)
 |d+1,a,j,h,h2,h3,h4=>by
  by_cases hc:c+1≤gD N (a+1)
  ·have:a+1<j:=by
    by_cases e:a+1=j
    ·subst e;omega
    ·omega
   obtain⟨m,m1,m2,m3,m4⟩:=ZS N c d (a+1) j (by omega) this hc h4;refine⟨m,by omega,m2,m3,fun k k1 k2=>?_⟩;by_cases e:k=a
   ·subst e;exact h3
   ·exact m4 k (by omega) k2
  ·refine⟨a+1,by omega,by omega,?_,fun k k1 k2=>?_⟩
   ·rcases aqG N a with h|h<;>omega
   ·have:k=a:=by omega
    subst this;exact h3
theorem aqR {N:List eL} {i j:Nat} (h:ret N i j) (hi:i<N.length) (hr:gh N[i].Kind=false):j=i+1:=by
 obtain⟨h1,h2,h3,h4⟩:=h;have hs:=Oa hi;rw [hr,if_neg (by simp)] at hs;by_cases e:j=i+1
 ·exact e
 ·have:=h3 (i+1) (by omega) (by omega);omega
theorem aqS {N:List eL} {i j:Nat} (h:ret N i j) (hi:i<N.length) (hr:gh N[i].Kind=true):∃m,ret N (i+1) m∧ret N m j:=by
 obtain⟨h1,h2,h3,h4⟩:=h;have hs:=Oa hi;rw [hr,if_pos rfl] at hs
 have:i+1<j:=by
  by_cases e:i+1=j
  ·subst e;omega
  ·omega
 obtain⟨m,m1,m2,m3,m4⟩:=ZS N (gD N i) (j -(i+1)) (i+1) j (Nat.le_refl _) this (by omega) (by omega)
 have hmj:m<j:=by
  by_cases e:m=j
  ·subst e;omega
  ·omega
 refine⟨m,⟨m1,by omega,fun k k1 k2=>?_,by omega⟩,hmj,h2,fun k k1 k2=>?_,by omega⟩
 ·have:=m4 k k1 k2;omega
 ·have:=h3 k (by omega) k2;omega
theorem ZT {p:dq} {m:Int} (h:DT p m):ret p.aV 0 p.aV.length:=by
 have hz:=h.zero;have h0:gD p.aV 0=1:=rfl
 have:0<p.aV.length:=by
  by_cases e:p.aV.length=0
  ·rw [e] at hz;omega
  ·omega
 refine⟨this,Nat.le_refl _,fun k _ hk=>?_,by omega⟩;have:=h.pos k hk;omega
def bare (e:bq):bq:=⟨e.kind,e.at_,0,0,e.fQ,e.bh,e.leaf,e.dC,e.gA,e.fR⟩
theorem ZU {ns:List bq} {i:Nat} (hi:i<ns.length) {e:bq} (he:bare e=bare ns[i]):(ns.set i e).map bare=ns.map bare:=by
 rw [List.map_set,he];apply List.ext_getElem?;intro k;rw [List.getElem?_set];split
 ·rename_i h;subst h;simp [hi]
 ·rfl
theorem Og {ns nc:List bq} (h:nc.map bare=ns.map bare) {k:Nat} (hk:k<ns.length) (fB:k<nc.length):bare nc[k]=bare ns[k]:=by
 have:=congrArg (fun l=>l[k]?) h;simpa [hk,fB] using this
theorem ZV {ns nc:List bq} (h:nc.map bare=ns.map bare):nc.length=ns.length:=by
 have:=congrArg List.length h;simpa using this
def lnk (n:Nat) (e:bq):Prop:=(0≤e.gr∧e.gr<n)∧(0≤e.second∧e.second<n)
theorem Oh {N:List eL} (hN:N.length≤60) {l:List aG} {d:List Df} {c:List aQ} {kf tr pt st ch du fi lg:Int} (rs:List Int) (sw:List aH):∀(F i j:Nat),j -i≤F→ret N i j→∀ns:List bq,ns.length=N.length→(∀(k:Nat) (h1:k<ns.length) (h2:k<N.length),ns[k].kind=N[k].Kind)→
  ∃nc,oL F l d c kf tr pt st ch du fi lg ns rs sw (i:Int)=some ((j:Int),nc,sw)∧nc.map bare=ns.map bare∧(∀k,¬(i≤k∧k<j)→nc[k]?=ns[k]?)∧(∀k,i≤k→k<j→∀e,nc[k]?=some e→(e.kind=2∨e.kind=3)→lnk N.length e)
 |0,i,j,hF,hr,_,_,_=>absurd hr.1 (by omega)
 |F+1,i,j,hF,hr,ns,hl,A0=>by
  have hi:i<N.length:=by have:=hr.1;have:=hr.2.1;omega
  have lF:i<ns.length:=by omega
  have hk:=A0 i lF hi;rw [oL];dsimp only;rw [dw lF,aT];cases nP:gh N[i].Kind with
  |false=>
   have n2:N[i].Kind≠2:=fun h=>by rw [h] at nP;cases nP
   have n3:N[i].Kind≠3:=fun h=>by rw [h] at nP;cases nP
   rw [hk,show(N[i].Kind !=2)=true by simp [n2],cond_true,show(N[i].Kind !=3)=true by simp [n3],cond_true,aT,Sum.elim_inl,cC (by omega),aqR hr hi nP]
   refine⟨ns,rfl,rfl,fun _ _=>rfl,fun k k1 k2 e he Hk=>?_⟩;have:k=i:=by omega
   subst this;rw [List.getElem?_eq_getElem lF] at he;have:=Option.some.inj he;rw [←this,hk] at Hk;omega
  |true=>
   have Bh:=(DS _).1 nP;obtain⟨m,r1,r2⟩:=aqS hr hi nP
   have hs:(bif(ns[i].kind !=2) then(bif(ns[i].kind !=3) then some (κ ((U ((i:Int)+1)),ns,sw)) else some (ι ())) else some (ι ()):Option ((Int×(List bq)×(List aH))⊕Unit))=some (.inr ()):=by
    rw [hk];rcases Bh with h|h<;>rw [h]<;>rfl
   rw [hs,aT,Sum.elim_inr,aT];simp only [jt];obtain⟨e2,DU⟩:∃e2:bq,e2=⟨ns[i].kind,ns[i].at_,U ((i:Int)+1),ns[i].second,ns[i].fQ,ns[i].bh,ns[i].leaf,ns[i].dC,ns[i].gA,ns[i].fR⟩:=⟨_,rfl⟩
   have hf:e2.gr=((i+1:Nat):Int):=by rw [DU];exact cC (by omega)
   have ph:bare e2=bare ns[i]:=by rw [DU];rfl
   rw [←DU,cC (by omega)];have lj:(bp ns (i:Int) e2).length=N.length:=by rw [lB];exact hl
   have ZW:(bp ns (i:Int) e2).map bare=ns.map bare:=ZU lF ph
   obtain⟨n1,a1,a2,a3,a4⟩:=Oh hN (l:=l) (d:=d) (c:=c) (kf:=kf) (tr:=tr) (pt:=pt) (st:=st) (ch:=ch) (du:=du) (fi:=fi) (lg:=lg) rs sw F (i+1) m (by have:=r2.1;omega) r1 (bp ns (i:Int) e2) lj (fun k h1 h2=>by
    have:=Og ZW (show k<ns.length by omega) h1
    have:=congrArg bq.kind this;exact this.trans (A0 k (by omega) h2))
   rw [a1,aT];dsimp only;have hn1:n1.length=N.length:=(ZV a2).trans lj;have Hl:i<n1.length:=by omega
   have eS:n1[i]?=some e2:=by
    rw [a3 i (by omega)];show(ns.set i e2)[i]?=some e2
    rw [List.getElem?_set_self lF]
   have ZX:n1[i]=e2:=by
    rw [List.getElem?_eq_getElem Hl] at eS;exact Option.some.inj eS
   rw [dw Hl,aT,ZX];obtain⟨e4,AR⟩:∃e4:bq,e4=⟨e2.kind,e2.at_,e2.gr,(m:Int),e2.fQ,e2.bh,e2.leaf,e2.dC,e2.gA,e2.fR⟩:=⟨_,rfl⟩
   have hb4:bare e4=bare n1[i]:=by rw [AR,ZX];rfl
   rw [←AR];have XU:(bp n1 (i:Int) e4).length=N.length:=by rw [lB];exact hn1
   have ZY:(bp n1 (i:Int) e4).map bare=ns.map bare:=((ZU Hl hb4).trans a2).trans ZW
   obtain⟨n2,b1,b2,b3,b4⟩:=Oh hN (l:=l) (d:=d) (c:=c) (kf:=kf) (tr:=tr) (pt:=pt) (st:=st) (ch:=ch) (du:=du) (fi:=fi) (lg:=lg) rs sw F m j (by have:=r1.1;omega) r2 (bp n1 (i:Int) e4) XU (fun k h1 h2=>by
    have:=Og ZY (show k<ns.length by omega) h1
    have:=congrArg bq.kind this;exact this.trans (A0 k (by omega) h2))
   have Fy:e4.second=(m:Int):=by rw [AR]
   rw [b1,aT]
   have k_:∀k,k≠i→(bp n1 (i:Int) e4)[k]?=n1[k]?:=fun k hk=>by
    show(n1.set i e4)[k]?=n1[k]?
    rw [List.getElem?_set_ne (Ne.symm hk)]
   have im:=r1.1;have mj:=r2.1;refine⟨n2,rfl,b2.trans ZY,fun k hk=>?_,fun k k1 k2 e he Hk=>?_⟩
   ·rw [b3 k (by omega),k_ k (by omega),a3 k (by omega)];show(ns.set i e2)[k]?=ns[k]?
    rw [List.getElem?_set_ne (by omega)]
   ·by_cases c1:m≤k
    ·exact b4 k c1 k2 e he Hk
    ·rw [b3 k (by omega)] at he;by_cases c2:k=i
     ·subst c2
      have:(bp n1 (k:Int) e4)[k]?=some e4:=by
       show(n1.set k e4)[k]?=some e4
       rw [List.getElem?_set_self Hl]
      rw [this] at he;have:=Option.some.inj he;have hmN:=r2.1;have hjN:=hr.2.1;have hF4:e4.gr=e2.gr:=by rw [AR]
      rw [←this];exact⟨by rw [hF4,hf];omega,by rw [Fy];omega⟩
     ·rw [k_ k c2] at he;exact a4 k (by omega) (by omega) e he Hk
theorem xM {α:Type} {ZZ:Nat} {xs:List α} (h1:xs.length*ZZ≤140737488355328) (h2:xs.length≤9223372036854775807):dF ZZ ([]:List α) xs=some xs:=by
 rw [np (by simpa using h1) (by simpa using h2),List.nil_append]
theorem Z0 {α:Type} (xs:List α) (k:Nat) (h:k<xs.length):xs.set k xs[k]=xs:=by
 apply List.ext_getElem?;intro i;rw [List.getElem?_set];split
 ·rename_i e;subst e;simp [h]
 ·rfl
theorem aqY {l:List aG} (h:kI l):wX l=some l:=by
 have hl:=h.len;unfold wX zp;rw [xM (by omega) (by omega),aT]
 have:=kZ (step:=fun q:Int×List aG=>rD l q.1 q.2) (fun j=>((j:Int),l)) l.length (y:=l) (fun j hj=>by
  have hs:=(h.sec _ (List.getElem_mem hj)).1.len;unfold rD zq;dsimp only;rw [eb hj,cond_true,dw hj,aT,xM (by omega) (by omega),aT,aT,cC (by omega)];have:bp l (j:Int) l[j]=l:=Z0 l j hj;rw [show(⟨l[j].aX,⟨l[j].bL.bY,l[j].bL.Rows⟩⟩:aG)=l[j] from rfl,this]) (by
  unfold rD;dsimp only;rw [eU];rfl)
 have this:bR (fun q:Int×List aG=>rD l q.1 q.2) (0,l)=some l:=this;rw [this];rfl
theorem aqZ {c:List aQ} (hc:c.length≤1000) (hl:∀p∈c,p.bQ.length≤1000∧p.da.length≤1000):wZ c=some c:=by
 unfold wZ zr;rw [xM (by omega) (by omega),aT]
 have:=kZ (step:=fun q:Int×List aQ=>rF c q.1 q.2) (fun j=>((j:Int),c)) c.length (y:=c) (fun j hj=>by
  obtain⟨h1,h2⟩:=hl _ (List.getElem_mem hj);have G7:bp c (j:Int) c[j]=c:=Z0 c j hj;unfold rF wY;dsimp only;rw [eb hj,cond_true,dw hj,aT,xM (by omega) (by omega),aT,aT,show(⟨c[j].Name,c[j].dB,c[j].dR,c[j].dM,c[j].dH,c[j].bQ,c[j].da⟩:aQ)=c[j] from rfl,G7,dw hj,aT,xM (by omega) (by omega),aT,aT,show(⟨c[j].Name,c[j].dB,c[j].dR,c[j].dM,c[j].dH,c[j].bQ,c[j].da⟩:aQ)=c[j] from rfl,G7,cC (by omega)]) (by
  unfold rF;dsimp only;rw [eU];rfl)
 have this:bR (fun q:Int×List aQ=>rF c q.1 q.2) (0,c)=some c:=this;rw [this];rfl
def fresh (n:eL) (e:bq):Prop:=e.kind=n.Kind∧e.at_=n.At∧e.fQ=false∧e.bh=⟨⟨0,0⟩,⟨0,0⟩⟩∧e.gA=false
structure Oi (p:dq) (k:Nat) (l1:List bq) (l2:List Int):Prop where
 len:l1.length=k
 fr:∀(j:Nat) (h1:j<l1.length) (h2:j<p.aV.length),fresh p.aV[j] l1[j]
 rl:l2.length≤k
 rp:∀i∈l2,∃j:Nat,i=(j:Int)∧j<k∧∃h:j<p.aV.length,gh p.aV[j].Kind=true
 nd:l2.Nodup
theorem aq0 {p:dq} (hn:p.aV.length≤60) {lv:List eQ×Int} (hlv:lv.1.length=o4 p.aV p.aV.length):
  ∃y,bR (fun q:Int×Int×List bq×List Int×List aH=>pF p lv q.1 q.2.1 q.2.2.1 q.2.2.2.1 q.2.2.2.2) (0,0,[],[],[])=some y∧Oi p p.aV.length y.1 y.2.1∧y.2.2=[]:=by
 refine uj (step:=fun q:Int×Int×List bq×List Int×List aH=>pF p lv q.1 q.2.1 q.2.2.1 q.2.2.2.1 q.2.2.2.2) (fun q=>∃k:Nat,q.1=((o4 p.aV k:Nat):Int)∧q.2.1=(k:Int)∧k≤p.aV.length∧Oi p k q.2.2.1 q.2.2.2.1∧q.2.2.2.2=[]) (fun q=>p.aV.length -q.2.1.toNat) (fun y=>Oi p p.aV.length y.1 y.2.1∧y.2.2=[]) ?_ (0,0,[],[],[]) ⟨0,rfl,rfl,Nat.zero_le _,⟨rfl,fun j h1=>absurd h1 (by simp),Nat.le_refl _,fun i hi=>(by cases hi),List.nodup_nil⟩,rfl⟩;rintro⟨lf,v,l1,l2,l3⟩ ⟨k,h1,h2,h3,h4,h5⟩;dsimp only at h1 h2 h4 h5;subst h1 h2 h5;dsimp only;unfold pF;by_cases hk:k<p.aV.length
 ·have qY:=h4.len;have lj:=h4.rl;have hs:=ZQ hk;have hle:=Oe p.aV k;rw [eb hk,cond_true,dw hk,aT,jt,cC (by omega)]
  have gY:∀(e:bq),fresh p.aV[k] e→∀(j:Nat) (g1:j<(l1++[e]).length) (g2:j<p.aV.length),fresh p.aV[j] (l1++[e])[j]:=fun e he j g1 g2=>by
   by_cases hj:j<l1.length
   ·rw [List.getElem_append_left hj];exact h4.fr j hj g2
   ·have:j=k:=by rw [List.length_append,List.length_cons,List.length_nil] at g1;omega
    subst this;rw [List.getElem_append_right (by omega)];simpa using he
  have Z1:∀e:bq,dF 192 l1 [e]=some (l1++[e]):=fun e=>np (by simp only [List.length_cons,List.length_nil];omega) (by simp only [List.length_cons,List.length_nil];omega)
  have nP:(bif(p.aV[k].Kind==2) then true else(p.aV[k].Kind==3))=gh p.aV[k].Kind:=rfl;rw [nP];cases hr:gh p.aV[k].Kind with
  |true=>
   rw [hr,if_pos rfl] at hs;rw [cond_true,np (xs:=l2) (by simp only [List.length_cons,List.length_nil];omega) (by simp only [List.length_cons,List.length_nil];omega),aT,Z1,aT];refine .inl ⟨_,rfl,⟨k+1,by rw [hs];rfl,rfl,hk,⟨by rw [List.length_append,qY];rfl,gY _ ⟨rfl,rfl,rfl,rfl,rfl⟩,by dsimp only;rw [List.length_append];simp;omega,fun i hi=>?_,?_⟩,rfl⟩,by dsimp only;omega⟩
   ·rcases List.mem_append.1 hi with hi|hi
    ·obtain⟨j,j1,j2,j3⟩:=h4.rp i hi;exact⟨j,j1,by omega,j3⟩
    ·rw [List.mem_singleton] at hi;exact⟨k,hi,by omega,hk,hr⟩
   ·dsimp only;rw [List.nodup_append];refine⟨h4.nd,by simp,fun a ha b hb=>?_⟩;rw [List.mem_singleton] at hb;obtain⟨j,j1,j2,_⟩:=h4.rp a ha;omega
  |false=>
   rw [hr,if_neg (by simp)] at hs
   have hlf:o4 p.aV k<lv.1.length:=by
    have:=ZR p.aV (k+1) (p.aV.length -(k+1));rw [show k+1+(p.aV.length -(k+1))=p.aV.length by omega] at this
    omega
   rw [cond_false,dw hlf,aT,Z1,aT,cC (by omega)];refine .inl ⟨_,rfl,⟨k+1,by rw [hs],rfl,hk,⟨by rw [List.length_append,qY];rfl,gY _ ⟨rfl,rfl,rfl,rfl,rfl⟩,by dsimp only;omega,fun i hi=>?_,h4.nd⟩,rfl⟩,by dsimp only;omega⟩;obtain⟨j,j1,j2,j3⟩:=h4.rp i hi;exact⟨j,j1,by omega,j3⟩
 ·have:k=p.aV.length:=by omega
  subst this;rw [eU];exact .inr ⟨_,rfl,h4,rfl⟩
theorem aq2 {s:iX} {r:iY} (h:qo s r=0):(0≤s.eE∧s.eE≤20)∧(0≤s.Trim∧s.Trim≤20):=by
 unfold qo at h;by_cases h1:s.eE<0
 ·rw [decide_eq_true h1] at h;cases h
 rw [decide_eq_false h1,cond_false] at h;by_cases h2:20<s.eE
 ·rw [decide_eq_true h2] at h;cases h
 rw [decide_eq_false h2,cond_false] at h;by_cases h3:s.Trim<0
 ·rw [decide_eq_true h3] at h;cases h
 rw [decide_eq_false h3,cond_false] at h;by_cases h4:20<s.Trim
 ·rw [decide_eq_true h4] at h;cases h
 omega
theorem lA.mono {l:List aG} {d:List Df} {c:List aQ} {T T':Int} {ns:List bq} {rs:List Int} {sw:List aH} (h:lA l d c T ns rs sw) (hT:T≤T'):lA l d c T' ns rs sw:=
 ⟨h.nodes,h.len,h.sk,h.nd,h.DQ,Int.le_trans h.ml hT⟩
structure aq3 (l:List aG) (d:List Df) (c:List aQ) (v:(List aG)×(List Df)×(List aQ)×Int×Int×Int×Int×Int×Int×Int×Int×(List bq)×(List Int)×(List aH)×Int):Prop where
 oX:v.1=l
 df:v.2.1=d
 cat:v.2.2.1=c
 kerf:0≤v.2.2.2.1∧v.2.2.2.1≤20
 trim:0≤v.2.2.2.2.1∧v.2.2.2.2.1≤20
 lng:v.2.2.2.2.2.2.2.2.2.2.1=bJ l
 ok:kI l∧jj l=some 0∧nD c=some 0
 line:lA l d c (fV l) v.2.2.2.2.2.2.2.2.2.2.2.1 v.2.2.2.2.2.2.2.2.2.2.2.2.1 v.2.2.2.2.2.2.2.2.2.2.2.2.2.1
 err:v.2.2.2.2.2.2.2.2.2.2.2.2.2.2=0
theorem aq4 {l:List aG} {d:List Df} {c:List aQ} {p:dq} (s:iX) (r:iY) (hl:lW l) (hd:d.length≤1000) (hn:p.aV.length≤60):
  ∃o,rK l d c p s r=some o∧((∃e,o=.inl e∧e≠0)∨∃v,o=.inr v∧aq3 l d c v):=by
 obtain⟨e1,a1,a2⟩:=Dz l hl;obtain⟨e2,b1⟩:∃e2,lR d=some e2:=⟨_,DK (by omega)⟩
 obtain⟨e3,c1,_,c2⟩:=apT c;obtain⟨e5,f1,f2⟩:=aqN p s.eE c
 have DV:∃e,wU l d c p s r=some e∧(e=0→e1=0∧e3=0∧qo s r=0∧e5=0):=by
  unfold wU;rw [uV,a1,aT];by_cases h1:e1=0
  ·subst h1;rw [show((0:Int)!=0)=false from rfl,cond_false,b1,aT]
   by_cases h2:e2=0
   ·subst h2;rw [show((0:Int)!=0)=false from rfl,cond_false,c1,aT]
    by_cases h3:e3=0
    ·subst h3;rw [show((0:Int)!=0)=false from rfl,cond_false]
     by_cases h4:qo s r=0
     ·rw [h4,show((0:Int)!=0)=false from rfl,cond_false]
      unfold zn;rw [f1];exact⟨e5,rfl,fun h=>⟨rfl,rfl,rfl,h⟩⟩
     ·rw [kc h4];exact⟨_,rfl,fun h=>absurd h h4⟩
    ·rw [kc h3];exact⟨_,rfl,fun h=>absurd h h3⟩
   ·rw [kc h2];exact⟨_,rfl,fun h=>absurd h h2⟩
  ·rw [kc h1];exact⟨_,rfl,fun h=>absurd h h1⟩
 obtain⟨e,g1,g2⟩:=DV;unfold rK;rw [g1,aT];by_cases he:e=0
 ·subst he;obtain⟨rfl,rfl,hw,rfl⟩:=g2 rfl;have hS:=a2 rfl;have hP:=f2 rfl;obtain⟨hc,G9⟩:=c2 rfl;have iM:∀p∈c,p.bQ.length≤1000∧p.da.length≤1000:=fun p hp=>⟨by have:=(G9 p hp).l;omega,by have:=(G9 p hp).l;have:=(G9 p hp).s;omega⟩
  obtain⟨Oc,A4⟩:=aq2 hw;obtain⟨lv,dN,gL⟩:=aqQ (kerf:=s.eE) hP hn;rw [show((0:Int)!=0)=false from rfl,cond_false,dN,aT]
  by_cases h0:lv.2=0
  ·rw [h0,show((0:Int)!=0)=false from rfl,cond_false,aqY hS,aT]
   unfold rE;rw [xM (by omega) (by omega),aT,aqZ (by omega) iM,aT,Ns,length_eq hS a1,aT];obtain⟨y,y1,y2,y3⟩:=aq0 hn (gL h0);rw [y1,aT];obtain⟨n0,q2,sw0⟩:=y;dsimp only at y2 y3;subst y3;obtain⟨z1,z2,z3,z4,z5⟩:=y2;obtain⟨n1,k1,k2,k3,k4⟩:=Oh hn (l:=l) (d:=d) (c:=c) (kf:=s.eE) (tr:=s.Trim) (pt:=s.fP) (st:=s.Step) (ch:=r.fY) (du:=r.cU) (fi:=r.gq) (lg:=bJ l) q2 [] p.aV.length 0 p.aV.length (Nat.le_refl _) (ZT hP) n0 z1 (fun k h1 h2=>(z2 k h1 h2).1);have ER:=XD l d c s.eE s.Trim s.fP s.Step r.fY r.cU r.gq (bJ l) n0 q2 [] ((0:Nat):Int) k1;dsimp only;rw [show((0:Nat):Int)=0 from rfl] at ER
   rw [ER,aT];dsimp only;have hln:=ZV k2;have nh:=(ZT hP).1
   have nodeAt:∀(k:Nat) (h:k<n1.length),fresh p.aV[k] n1[k]:=fun k h=>by
    have:=Og k2 (show k<n0.length by omega) h
    have h2:=z2 k (by omega) (by omega);have a:=congrArg bq.kind this;have b:=congrArg bq.at_ this;have cc:=congrArg bq.fQ this;have dd:=congrArg bq.bh this;have ee:=congrArg bq.gA this;exact⟨a.trans h2.1,b.trans h2.2.1,cc.trans h2.2.2.1,dd.trans h2.2.2.2.1,ee.trans h2.2.2.2.2⟩
   have L0:lA l d c 0 n1 q2 []:=by
    refine⟨fun e he=>?_,by omega,fun i hi=>?_,z5,?_,?_⟩
    ·obtain⟨k,hk,rfl⟩:=List.mem_iff_getElem.1 he;obtain⟨f1,f2,f3,f4,f5⟩:=nodeAt k hk;obtain⟨_,_,w3,w4⟩:=hP.fact k (by omega);refine⟨by rw [f4];exact⟨by decide,by decide,by decide,by decide,by decide,by decide⟩,fun _=>f4,fun h=>?_,fun h=>?_,fun h=>by rw [f5] at h;cases h⟩
     ·rw [f1] at h;obtain⟨q1,q3⟩:=k4 k (Nat.zero_le _) (by omega) n1[k] (List.getElem?_eq_getElem hk) (by rw [f1];exact h);rw [f2,show n1.length=p.aV.length by omega]
      exact⟨w3 ((DS _).2 h),q1,q3⟩
     ·rw [f1] at h;rw [f2];exact w4 h
    ·obtain⟨j,rfl,j1,j2,j3⟩:=z4 i hi;have fk:j<n1.length:=by omega
     refine⟨n1[j],dw fk,?_⟩;rw [(nodeAt j fk).1];exact(DS _).1 j3
    ·simp only [List.length_nil];omega
    ·unfold xL
     have o0:∀xs:List Int,(xs.map (ow l n1)).sum=0:=fun xs=>by
      induction xs with
      |nil=>rfl
      |cons x xs ih=>
       rw [List.map_cons,List.sum_cons,ih];unfold ow;split
       ·rename_i e he;obtain⟨_,e4⟩:=uk he;obtain⟨hk,hke⟩:=List.getElem?_eq_some_iff.1 e4;have:=(nodeAt _ hk).2.2.1;rw [hke] at this;rw [if_neg (by rw [this];simp)];rfl
       ·rfl
     have b0:∀xs:List bq,(∀e∈xs,e.gA=false)→(xs.map (bw l)).sum=0:=fun xs=>by
      induction xs with
      |nil=>intro _;rfl
      |cons x xs ih=>
       intro hx;rw [List.map_cons,List.sum_cons,ih fun e he=>hx e (List.mem_cons_of_mem _ he)];unfold bw;rw [if_neg (by rw [hx x (List.mem_cons_self ..)];simp)];rfl
     rw [o0,b0 n1 fun e he=>by
      obtain⟨k,hk,rfl⟩:=List.mem_iff_getElem.1 he;exact(nodeAt k hk).2.2.2.2]
     simp
   obtain⟨n2,s1,s2,s3⟩:=N8 hl (kf:=s.eE) (tr:=s.Trim) (pt:=s.fP) (st:=s.Step) (ch:=r.fY) (du:=r.cU) (fi:=r.gq) (lg:=bJ l) L0 q2 (Int.le_refl _) (by omega) (ZO hP.frame);rw [s1,aT];have gY:=hP.frame;have hv:V0 l p.Frame≤fV l:=Zs (by omega) (by omega) (by omega) (by omega) l 0 fun e he=>(hS.sec e he).2.1
   exact⟨_,rfl,.inr ⟨_,rfl,⟨rfl,rfl,rfl,Oc,A4,rfl,⟨hS,a1,c1⟩,s3.mono (by omega),rfl⟩⟩⟩
  ·rw [kc h0];exact⟨_,rfl,.inl ⟨_,rfl,h0⟩⟩
 ·rw [kc he];exact⟨_,rfl,.inl ⟨_,rfl,he⟩⟩
def dg {α:Type} (o:Option α) (P:α→Prop):Prop:=∃v,o=some v∧P v
section
variable{α β γ:Type} {P:α→Prop} {Q:β→Prop}
theorem bF {v:α} (h:P v):dg (some v) P:=⟨v,rfl,h⟩
theorem bb {o:Option β} {f:β→Option α} (h:dg o Q) (k:∀v,Q v→dg (f v) P):dg (o.bind f) P:=by
 obtain⟨v,rfl,hv⟩:=h;exact k v hv
theorem cr {c:Bool} {a b:Option α} (h1:c=true→dg a P) (h2:c=false→dg b P):dg (bif c then a else b) P:=by
 cases c with
 |true=>exact h1 rfl
 |false=>exact h2 rfl
theorem u_ {x:β} {f:β→Option α} (h:dg (f x) P):dg (cH x f) P:=h
theorem DW {f:β→Option α} {g:γ→Option α} {z:β⊕γ} (h1:∀a,z=.inl a→dg (f a) P) (h2:∀a,z=.inr a→dg (g a) P):dg (Sum.elim f g z) P:=by
 cases z with
 |inl a=>exact h1 a rfl
 |inr a=>exact h2 a rfl
theorem fb {xs:List α} {j:Nat} (h:j<xs.length):dg (aK xs (j:Int)) (fun v=>v=xs[j]):=⟨_,dw h,rfl⟩
theorem iD {xs:List α} {i:Int} (h0:0≤i) (h:i<xs.length):dg (aK xs i) (fun v=>v∈xs):=by
 obtain⟨j,rfl⟩:=Int.eq_ofNat_of_zero_le h0;exact⟨_,dw (by omega),List.getElem_mem _⟩
theorem Hm {b:Nat} {xs ys:List α} (h1:(xs.length+ys.length)*b≤140737488355328) (h2:xs.length+ys.length≤9223372036854775807):dg (dF b xs ys) (fun v=>v=xs++ys):=⟨_,np h1 h2,rfl⟩
theorem xN {b:Nat} {z:α} {n:Nat} (h1:n≤9223372036854775807) (h2:n*b≤281474976710656):dg (lh b z (n:Int)) (fun v=>v=List.replicate n z):=by
 refine⟨_,acN (by omega) (by omega) ?_,by simp⟩;have:((n*b:Nat):Int)≤281474976710656:=by omega
 simpa using this
theorem aq6 {o:Option α} {P':α→Prop} (h:dg o P) (k:∀v,P v→P' v):dg o P':=by
 obtain⟨v,e,hv⟩:=h;exact⟨v,e,k v hv⟩
theorem gE {X Y:Type} {step:X→Option (X⊕Y)} {G:Y→Prop} (n:Nat) (ix:X→Int) (I:X→Prop) (h:∀x (j:Nat),I x→ix x=(j:Int)→j<n→dg (step x) (fun z=>(∃x',z=.inl x'∧I x'∧ix x'=((j+1:Nat):Int))∨∃y,z=.inr y∧G y)) (he:∀x,I x→ix x=(n:Int)→dg (step x) (fun z=>∃y,z=.inr y∧G y)) {x0:X} (h0:I x0) {j0:Nat} (hi:ix x0=(j0:Int)) (hj:j0≤n):dg (bR step x0) G:=by
 refine uj (fun x=>I x∧∃j:Nat,ix x=(j:Int)∧j≤n) (fun x=>n -(ix x).toNat) G ?_ x0 ⟨h0,j0,hi,hj⟩;rintro x ⟨hI,j,hx,hjn⟩;by_cases cn:j<n
 ·obtain⟨z,hz,hh⟩:=h x j hI hx cn;rcases hh with⟨x',rfl,b,c⟩|⟨y,rfl,g⟩
  ·exact .inl ⟨x',hz,⟨b,j+1,c,cn⟩,by rw [c,hx];omega⟩
  ·exact .inr ⟨y,hz,g⟩
 ·have:j=n:=by omega
  subst this;obtain⟨z,hz,y,rfl,g⟩:=he x hI hx;exact .inr ⟨y,hz,g⟩
end
theorem iI {X Y:Type} {G:Y→Prop} {n:Nat} {i:Int} (hi:i=(n:Int)) {a:Option (X⊕Y)} {y:Y} (h:G y):dg (bif(decide (i<((n:Nat):Int))) then a else some (ι y)) (fun z=>∃y,z=.inr y∧G y):=by
 subst hi;rw [eU];exact⟨_,rfl,y,rfl,h⟩
theorem iJ {X Y:Type} {R:X⊕Y→Prop} {n j:Nat} {i:Int} (hi:i=(j:Int)) (hj:j<n) {a b:Option (X⊕Y)} (h:dg a R):dg (bif(decide (i<((n:Nat):Int))) then a else b) R:=by
 subst hi;rw [eb hj];exact h
theorem Oj (q:Int):0≤Int.tmod (U (Int.tmod q 4+4)) 4∧Int.tmod (U (Int.tmod q 4+4)) 4<4:=by
 have h1:=Int.tmod_lt_of_pos q (show(0:Int)<4 by decide)
 have h2:=Int.lt_tmod_of_pos q (show(0:Int)<4 by decide)
 rw [b_ (by omega) (by omega)];exact⟨Int.tmod_nonneg _ (by omega),Int.tmod_lt_of_pos _ (by decide)⟩
theorem aq7 (P:List aQ) (S:iX) (R:iY):dg (B5 ⟨[],[],P,S,R⟩) (fun b=>b=true→P.length≤1000):=by
 have hP:∀q:Bool,(q=true→P.length≤1000)→dg (some q) (fun b=>b=true→P.length≤1000):=fun q h=>⟨_,rfl,h⟩
 have hF:dg (some false) (fun b=>b=true→P.length≤1000):=⟨_,rfl,fun h=>by cases h⟩;unfold B5;refine bb (Q:=fun z=>z=.inl false∨(z=.inr ()∧P.length≤3)) ?_ ?_
 ·refine u_ (bb (Q:=fun b=>True) ?_ ?_)
  ·unfold FK FH;dsimp only;refine cr (fun _=>bF trivial) (fun _=>cr (fun _=>bF trivial) (fun _=>cr (fun _=>bF trivial) (fun Z2=>cr (fun _=>bF trivial) (fun _=>bb (Q:=fun _=>True) ?_ (fun w _=>cr (fun _=>bF trivial) (fun _=>bb (Q:=fun _=>True) ?_ (fun z _=>DW (fun _ _=>bF trivial) (fun _ _=>bb (Q:=fun _=>True) ?_ (fun z _=>DW (fun _ _=>bF trivial) (fun _ _=>bF trivial))))))))))
   ·unfold FI;dsimp only
    have hlen:P.length≤20:=by
     have:=of_decide_eq_false Z2;omega
    refine bb (Q:=fun _=>True) ⟨0,gQ (step:=fun q:Int×Int=>BV _ q.1 q.2) rfl,trivial⟩ (fun lg _=>bb (Q:=fun _=>True) ?_ (fun ls _=>bb (Q:=fun _=>True) (cr (fun h=>cr (fun _=>bF trivial) (fun h2=>?_)) (fun _=>bF trivial)) (fun v _=>bF trivial)))
    ·refine gE P.length (fun q:Int×Int=>q.2) (fun _=>True) (fun x j _ hx hj=>?_) (fun x _ hx=>?_) trivial rfl (Nat.zero_le _)
     ·unfold yW;refine iJ hx hj (bb (by rw [hx];exact fb hj) (fun e _=>bF (.inl ⟨_,rfl,trivial,?_⟩)));dsimp only;rw [hx,cC (by omega)]
     ·unfold yW;exact iI hx trivial
    ·have:=of_decide_eq_true h;simp at h2;omega
   ·exact⟨.inr (),gQ (step:=fun q:Int=>BX _ q) rfl,trivial⟩
   ·have hlen:P.length≤20:=by
     have:=of_decide_eq_false Z2;omega
    refine gE P.length (fun q:Int=>q) (fun _=>True) (fun x j _ hx hj=>?_) (fun x _ hx=>?_) trivial rfl (Nat.zero_le _)
    ·unfold yY;subst hx;refine iJ rfl hj (bb (fb hj) (fun e _=>cr (fun _=>bF (.inr ⟨_,rfl,trivial⟩)) (fun _=>bb (fb hj) (fun e2 _=>cr (fun _=>bF (.inr ⟨_,rfl,trivial⟩)) (fun _=>bb (fb hj) (fun e3 _=>cr (fun _=>bF (.inr ⟨_,rfl,trivial⟩)) (fun _=>bF (.inl ⟨_,rfl,trivial,cC (by omega)⟩))))))))
    ·unfold yY;exact iI hx trivial
  ·intro b _;refine cr (fun _=>bF (.inl rfl)) (fun _=>cr (fun _=>bF (.inl rfl)) (fun _=>cr (fun _=>bF (.inl rfl)) (fun h3=>?_)));have h3:=of_decide_eq_false h3;have hp:P.length≤3:=by dsimp only at h3;omega
   refine cr (fun _=>cr (fun _=>bF (.inl rfl)) (fun _=>cr (fun _=>cr (fun _=>bF (.inl rfl)) (fun _=>bF (.inr ⟨rfl,hp⟩))) (fun _=>bF (.inr ⟨rfl,hp⟩)))) (fun _=>cr (fun _=>cr (fun _=>bF (.inl rfl)) (fun _=>bF (.inr ⟨rfl,hp⟩))) (fun _=>bF (.inr ⟨rfl,hp⟩)))
 ·rintro z (rfl|⟨rfl,hp⟩)
  ·exact hF
  ·rw [Sum.elim_inr];refine bb (Q:=fun z=>z=.inl false∨z=.inr ()) ?_ ?_
   ·refine gE P.length (fun q:Int=>q) (fun _=>True) (fun x j _ hx hj=>?_) (fun x _ hx=>?_) trivial rfl (Nat.zero_le _)
    ·unfold yZ;subst hx;exact iJ rfl hj (bb (fb hj) (fun e _=>cr (fun _=>bF (.inr ⟨_,rfl,.inl rfl⟩)) (fun _=>bF (.inl ⟨_,rfl,trivial,cC (by omega)⟩))))
    ·unfold yZ;exact iI hx (.inr rfl)
   ·rintro z (rfl|rfl)
    ·exact hF
    ·rw [Sum.elim_inr];refine bb (Q:=fun c=>c=3) ⟨3,rfl,rfl⟩ ?_;rintro c rfl;exact hP true (fun _=>by omega)
structure Z3 (t:l_):Prop where
 rings:t.Scan.cB.length≤6
 AS:t.Scan.dA.length≤70
 reads:∀r∈t.Scan.cB,r.Read.length≤40
theorem aq8 (t:l_):dg (B9 t) (fun b=>b=true→Z3 t):=by
 have hF:dg (some false) (fun b=>b=true→Z3 t):=⟨_,rfl,fun h=>by cases h⟩;unfold B9;refine cr (fun _=>hF) (fun h1=>cr (fun _=>hF) (fun h2=>bb (aq7 _ _ _) (fun b _=>cr (fun _=>hF) (fun _=>?_))));have h1:=of_decide_eq_false h1;have h2:=of_decide_eq_false h2;refine bb (Q:=fun z=>z=.inl false∨(z=.inr ()∧∀r∈t.Scan.cB,r.Read.length≤40)) ?_ ?_
 ·refine gE t.Scan.cB.length (fun q:Int=>q) (fun q=>∀(j:Nat) (hj:j<t.Scan.cB.length),(j:Int)<q→t.Scan.cB[j].Read.length≤40) (fun x j hI hx hj=>?_) (fun x hI hx=>?_) (fun j _ h=>absurd h (by omega)) rfl (Nat.zero_le _)
  ·unfold y_;subst hx;refine iJ rfl hj (bb (Q:=fun z=>z=.inl (.inr (.inl false))∨(z=.inr ()∧t.Scan.cB[j].Read.length≤40)) ?_ ?_)
   ·refine bb (fb hj) ?_;rintro e rfl;refine cr (fun _=>bF (.inl rfl)) (fun Z4=>bb (fb hj) (fun e1 _=>cr (fun _=>bF (.inl rfl)) (fun _=>?_)));have Z4:=of_decide_eq_false Z4;refine gE t.Scan.cB[j].Read.length (fun q:Int=>q) (fun _=>True) (fun x k _ hx hk=>?_) (fun x _ hx=>?_) trivial rfl (Nat.zero_le _)
    ·unfold y0;subst hx;exact iJ rfl hk (bb (fb hk) (fun e _=>cr (fun _=>bF (.inr ⟨_,rfl,.inl rfl⟩)) (fun _=>cr (fun _=>bF (.inr ⟨_,rfl,.inl rfl⟩)) (fun _=>cr (fun _=>bF (.inr ⟨_,rfl,.inl rfl⟩)) (fun _=>cr (fun _=>bF (.inr ⟨_,rfl,.inl rfl⟩)) (fun _=>bF (.inl ⟨_,rfl,trivial,cC (by omega)⟩)))))))
    ·unfold y0;exact iI hx (.inr ⟨rfl,by omega⟩)
   ·rintro z (rfl|⟨rfl,hr⟩)
    ·exact bF (.inr ⟨_,rfl,.inl rfl⟩)
    ·refine bF (.inl ⟨_,rfl,?_,cC (by omega)⟩);rw [cC (by omega)];intro k hk cn;by_cases e:k=j
     ·subst e;exact hr
     ·exact hI k hk (by omega)
  ·unfold y_;refine iI hx (.inr ⟨rfl,fun r hr=>?_⟩);obtain⟨k,hk,rfl⟩:=List.mem_iff_getElem.1 hr;exact hI k hk (by omega)
 ·rintro z (rfl|⟨rfl,hr⟩)
  ·exact hF
  ·exact bF (fun _=>⟨by omega,by omega,hr⟩)
theorem xO {α:Type} {b:Nat} {xs:List α} (h1:xs.length*b≤140737488355328) (h2:xs.length≤9223372036854775807):dg (dF b ([]:List α) xs) (fun v=>v=xs):=⟨_,xM h1 h2,rfl⟩
theorem Hn (r:dc):dg (uO r) (fun e=>e=0→8≤r.Read.length∧r.Read.length≤32):=by
 have hE:∀n:Int,n≠0→dg (some n) (fun e=>e=0→8≤r.Read.length∧r.Read.length≤32):=fun n h=>⟨n,rfl,fun e=>absurd e h⟩
 unfold uO;refine cr (fun _=>hE 3 (by decide)) (fun h1=>cr (fun _=>hE 4 (by decide)) (fun h2=>cr (fun _=>hE 9 (by decide)) (fun _=>cr (fun _=>hE 9 (by decide)) (fun _=>?_))));have h1:=of_decide_eq_false h1;have h2:=of_decide_eq_false h2;refine bb (Q:=fun z=>(∃n:Int,z=.inl n∧n≠0)∨z=.inr ()) ?_ ?_
 ·refine gE r.Read.length (fun q:Int=>q) (fun _=>True) (fun x j _ hx hj=>?_) (fun x _ hx=>?_) trivial rfl (Nat.zero_le _)
  ·unfold zB;subst hx;have s9:∀n:Int,n≠0→dg (some (ι (κ n)):Option (Int⊕(Int⊕Unit))) (fun z=>(∃x',z=.inl x'∧True∧x'=((j+1:Nat):Int))∨∃y,z=.inr y∧((∃n:Int,y=.inl n∧n≠0)∨y=.inr ())):=fun n h=>bF (.inr ⟨_,rfl,.inl ⟨n,rfl,h⟩⟩)
   have nx:dg (some (κ (U ((j:Int)+1))):Option (Int⊕(Int⊕Unit))) (fun z=>(∃x',z=.inl x'∧True∧x'=((j+1:Nat):Int))∨∃y,z=.inr y∧((∃n:Int,y=.inl n∧n≠0)∨y=.inr ())):=bF (.inl ⟨_,rfl,trivial,cC (by omega)⟩);exact iJ rfl hj (bb (fb hj) (fun e _=>cr (fun _=>cr (fun _=>s9 9 (by decide)) (fun _=>cr (fun _=>s9 9 (by decide)) (fun _=>nx))) (fun _=>cr (fun _=>s9 19 (by decide)) (fun _=>nx))))
  ·unfold zB;exact iI hx (.inr rfl)
 ·rintro z (⟨n,rfl,h⟩|rfl)
  ·exact hE n h
  ·exact bF (fun _=>by omega)
theorem Z5 (s:hJ):dg (zF s) (fun e=>e=0→2≤s.cB.length∧s.cB.length≤24):=by
 have hE:∀n:Int,n≠0→dg (some n) (fun e=>e=0→2≤s.cB.length∧s.cB.length≤24):=fun n h=>⟨n,rfl,fun e=>absurd e h⟩
 unfold zF;refine cr (fun _=>hE 3 (by decide)) (fun h1=>cr (fun _=>hE 4 (by decide)) (fun h2=>?_));have h1:=of_decide_eq_false h1;have h2:=of_decide_eq_false h2;have hl:2≤s.cB.length∧s.cB.length≤24:=by omega
 have hA:∀n:Int,dg (some n) (fun e=>e=0→2≤s.cB.length∧s.cB.length≤24):=fun n=>⟨n,rfl,fun _=>hl⟩
 refine bb (Q:=fun _=>True) ?_ (fun z _=>DW (fun n _=>hA n) (fun _ _=>?_))
 ·refine gE s.cB.length (fun q:Int=>q) (fun _=>True) (fun x j _ hx hj=>?_) (fun x _ hx=>?_) trivial rfl (Nat.zero_le _)
  ·unfold zC;subst hx;have er:∀n:Int,dg (some (ι (κ n)):Option (Int⊕(Int⊕Unit))) (fun z=>(∃x',z=.inl x'∧True∧x'=((j+1:Nat):Int))∨∃y,z=.inr y∧True):=fun n=>bF (.inr ⟨_,rfl,trivial⟩)
   have nx:dg (some (κ (U ((j:Int)+1))):Option (Int⊕(Int⊕Unit))) (fun z=>(∃x',z=.inl x'∧True∧x'=((j+1:Nat):Int))∨∃y,z=.inr y∧True):=bF (.inl ⟨_,rfl,trivial,cC (by omega)⟩);have g0:dg (aK s.cB 0) (fun v=>v∈s.cB):=iD (Int.le_refl _) (by omega)
   have gp:decide (0<(j:Int))=true→dg (aK s.cB (U ((j:Int) -1))) (fun v=>v∈s.cB):=fun h=>by
    have h:=of_decide_eq_true h;rw [b_ (by omega) (by omega)];exact iD (by omega) (by omega)
   refine iJ rfl hj (bb (fb hj) (fun e _=>bb (Hn e) (fun c _=>cr (fun _=>er c) (fun _=>cr (fun _=>cr (fun _=>er 11) (fun _=>cr (fun h=>bb (gp h) (fun e1 _=>cr (fun _=>er 11) (fun _=>bb g0 (fun e2 _=>cr (fun _=>er 19) (fun _=>nx))))) (fun _=>bb g0 (fun e3 _=>cr (fun _=>er 19) (fun _=>nx))))) (fun _=>cr (fun h=>bb (gp h) (fun e4 _=>cr (fun _=>er 11) (fun _=>bb g0 (fun e5 _=>cr (fun _=>er 19) (fun _=>nx))))) (fun _=>bb g0 (fun e6 _=>cr (fun _=>er 19) (fun _=>nx))))))))
  ·unfold zC;exact iI hx trivial
 ·by_cases hd:s.dA.length≤9223372036854775807
  ·refine bb (Q:=fun _=>True) ⟨_,DK hd,trivial⟩ (fun c _=>cr (fun _=>hA c) (fun _=>bb (Q:=fun v=>v∈s.cB) ?_ (fun e _=>bb (Q:=fun _=>True) ?_ (fun z _=>DW (fun n _=>hA n) (fun _ _=>hA 0)))))
   ·rw [b_ (by omega) (by omega)];exact iD (by omega) (by omega)
   ·refine gE s.dA.length (fun q:Int=>q) (fun _=>True) (fun x j _ hx hj=>?_) (fun x _ hx=>?_) trivial rfl (Nat.zero_le _)
    ·unfold zD;subst hx;exact iJ rfl hj (bb (fb hj) (fun e _=>cr (fun _=>bF (.inr ⟨_,rfl,trivial⟩)) (fun _=>bF (.inl ⟨_,rfl,trivial,cC (by omega)⟩))))
    ·unfold zD;exact iI hx trivial
  ·have hlen:lR s.dA=some 4:=by
    unfold lR;rw [decide_eq_true (by omega)];rfl
   refine bb (Q:=fun c=>c=4) ⟨4,hlen,rfl⟩ ?_;rintro c rfl;exact hA 4
structure DX (s:hJ):Prop where
 rings:s.cB.length≤6
 AS:s.dA.length≤70
 reads:∀r∈s.cB,r.Read.length≤40
theorem aq9 (l:List Df) (q:Int) (hl:l.length≤70):dg (CI l q) (fun v=>v.length≤70):=by
 unfold CI;refine bb (Q:=fun _=>True) ⟨_,DK (by omega),trivial⟩ (fun c _=>cr (fun _=>bF (Nat.zero_le _)) (fun _=>bb (xN (by omega) (by omega)) ?_));rintro m rfl;refine bb (Q:=fun v=>v.length≤70) ?_ (fun v hv=>bF hv);refine gE l.length (fun q:Int×List Df=>q.1) (fun x=>x.2.length=l.length) (fun x j hI hx hj=>?_) (fun x hI hx=>?_) (by simp) rfl (Nat.zero_le _)
 ·unfold zI;refine iJ hx hj (bb (Q:=fun v=>v.length=l.length) ?_ (fun v hv=>bF (.inl ⟨_,rfl,hv,?_⟩)))
  ·rw [hx];refine bb (fb hj) (fun e _=>bb (Q:=fun _=>True) ?_ (fun d _=>bb (fb (by omega)) (fun e1 _=>bF (by rw [lB];exact hI))));obtain⟨m1,m2⟩:=Oj q;obtain⟨n,hn⟩:=Int.eq_ofNat_of_zero_le m1;refine gE n (fun q:Int×Df=>q.1) (fun _=>True) (fun x j _ hx hj=>?_) (fun x _ hx=>?_) trivial rfl (Nat.zero_le _)
   ·unfold zH;rw [hn];refine iJ hx hj (bF (.inl ⟨_,rfl,trivial,?_⟩));dsimp only;rw [hx,cC (by omega)]
   ·unfold zH;rw [hn];exact iI hx trivial
  ·dsimp only;rw [hx,cC (by omega)]
 ·unfold zI;exact iI hx (by omega)
theorem aq_ (p:List a7) (q:Int) (hp:p.length≤1000):dg (CJ p q) (fun v=>v.length≤p.length):=by
 unfold CJ;refine bb (Q:=fun _=>True) ?_ (fun c _=>cr (fun _=>bF (Nat.zero_le _)) (fun _=>bb (Q:=fun _=>True) ?_ (fun e _=>bb (xN (by omega) (by omega)) ?_)))
 ·unfold Gs;refine bb (Q:=fun _=>True) ?_ (fun z _=>DW (fun _ _=>bF trivial) (fun _ _=>bF trivial));refine gE p.length (fun q:Int=>q) (fun _=>True) (fun x j _ hx hj=>?_) (fun x _ hx=>?_) trivial rfl (Nat.zero_le _)
  ·unfold zK;subst hx;exact iJ rfl hj (bb (fb hj) (fun e _=>cr (fun _=>bF (.inr ⟨_,rfl,trivial⟩)) (fun _=>cr (fun _=>bF (.inr ⟨_,rfl,trivial⟩)) (fun _=>bF (.inl ⟨_,rfl,trivial,cC (by omega)⟩)))))
  ·unfold zK;exact iI hx trivial
 ·exact aq6 (iD (Oj q).1 (Oj q).2) (fun _ _=>trivial)
 ·rintro m rfl;refine bb (Q:=fun v=>v.length≤p.length) ?_ (fun v hv=>bF hv);refine gE p.length (fun q:Int×List a7=>q.1) (fun x=>x.2.length=p.length) (fun x j hI hx hj=>?_) (fun x hI hx=>?_) (by simp) rfl (Nat.zero_le _)
  ·unfold zL;refine iJ hx hj ?_;rw [hx];refine bb (fb hj) (fun e1 _=>bb (fb (by omega)) (fun e2 _=>bF (.inl ⟨_,rfl,?_,?_⟩)))
   ·dsimp only;rw [lB];exact hI
   ·dsimp only;rw [cC (by omega)]
  ·unfold zL;exact iI hx (Nat.le_of_eq hI)
theorem aq' (r:dc) (q:Int) (hr:r.Read.length≤40):dg (CK r q) (fun v=>v.Read.length≤40):=by
 unfold CK zJ tk;refine bb (Q:=fun v=>v=r) (bb (xO (by omega) (by omega)) (by rintro v rfl;exact bF rfl)) ?_;rintro v rfl;refine bb (Hn v) (fun c hc=>cr (fun _=>bF hr) (fun h0=>bb (xN (by omega) (by omega)) ?_));rintro m rfl;refine bb (Q:=fun p:List a7=>p.length=v.Read.length) ?_ (fun p hp=>bb (Q:=fun x:List eJ=>x.length=v.Read.length) (bb (aq_ p q (by omega)) (fun tv u7=>?_)) (fun x hx=>bF (by dsimp only;omega)))
 ·refine gE v.Read.length (fun q:Int×List a7=>q.1) (fun x=>x.2.length=v.Read.length) (fun x j hI hx hj=>?_) (fun x hI hx=>?_) (by simp) rfl (Nat.zero_le _)
  ·unfold zM;refine iJ hx hj ?_;rw [hx];refine bb (fb hj) (fun e1 _=>bb (fb (by omega)) (fun e2 _=>bF (.inl ⟨_,rfl,?_,?_⟩)))
   ·dsimp only;rw [lB];exact hI
   ·dsimp only;rw [cC (by omega)]
  ·unfold zM;exact iI hx hI
 ·refine gE tv.length (fun q:Int×List eJ=>q.1) (fun x=>x.2.length=v.Read.length) (fun x j hI hx hj=>?_) (fun x hI hx=>?_) rfl rfl (Nat.zero_le _)
  ·unfold zN;refine iJ hx hj ?_;rw [hx];refine bb (fb hj) (fun e1 _=>bb (fb (by omega)) (fun e2 _=>bF (.inl ⟨_,rfl,?_,?_⟩)))
   ·dsimp only;rw [lB];exact hI
   ·dsimp only;rw [cC (by omega)]
  ·unfold zN;exact iI hx hI
theorem ara (s:hJ) (q:Int) (h:DX s):dg (CL s q) DX:=by
 have h1:=h.rings;have h2:=h.AS;unfold CL;refine bb (Z5 s) (fun c _=>cr (fun _=>?_) (fun _=>?_))
 ·unfold Gq Gp rE;refine bb (Q:=DX) (bb (xO (by omega) (by omega)) ?_) (fun v hv=>bF hv);rintro rv rfl;refine bb (xO (by omega) (by omega)) ?_;rintro dv rfl;refine bb (Q:=fun l:List dc=>l.length≤6∧∀r∈l,r.Read.length≤40) ?_ (fun l hl=>bF ⟨hl.1,h2,hl.2⟩);refine gE s.cB.length (fun q:Int×List dc=>q.1) (fun x=>x.2.length=s.cB.length∧∀r∈x.2,r.Read.length≤40) (fun x j hI hx hj=>?_) (fun x hI hx=>?_) ⟨rfl,h.reads⟩ rfl (Nat.zero_le _)
  ·unfold zG tk;refine iJ hx hj ?_;rw [hx];obtain⟨i1,i2⟩:=hI;refine bb (fb (by omega)) ?_;rintro e rfl;have he:=i2 _ (List.getElem_mem (show j<x.2.length by omega))
   refine bb (xO (by omega) (by omega)) ?_;rintro xq rfl;refine bb (fb (by omega)) (fun e1 _=>bF (.inl ⟨_,rfl,⟨?_,fun r hr=>?_⟩,?_⟩))
   ·dsimp only;rw [lB];exact i1
   ·rcases List.mem_or_eq_of_mem_set hr with hr|hr
    ·exact i2 r hr
    ·rw [hr];exact he
   ·dsimp only;rw [cC (by omega)]
  ·unfold zG;exact iI hx ⟨by omega,hI.2⟩
 ·refine bb (xN (by omega) (by omega)) ?_;rintro m rfl;refine bb (aq9 s.dA q h2) (fun tv u7=>bb (Q:=fun l:List dc=>l.length≤6∧∀r∈l,r.Read.length≤40) ?_ (fun l hl=>bF ⟨hl.1,u7,hl.2⟩));refine gE s.cB.length (fun q:Int×List dc=>q.1) (fun x=>x.2.length=s.cB.length∧∀r∈x.2,r.Read.length≤40) (fun x j hI hx hj=>?_) (fun x hI hx=>?_) ⟨by simp,fun r hr=>by rw [List.mem_replicate] at hr;rw [hr.2];exact Nat.zero_le _⟩ rfl (Nat.zero_le _)
  ·unfold zP;refine iJ hx hj ?_;rw [hx];obtain⟨i1,i2⟩:=hI;refine bb (fb hj) ?_;rintro e rfl;refine bb (aq' _ q (h.reads _ (List.getElem_mem hj))) (fun v hv=>bb (fb (by omega)) (fun e1 _=>bF (.inl ⟨_,rfl,⟨?_,fun r hr=>?_⟩,?_⟩)))
   ·dsimp only;rw [lB];exact i1
   ·rcases List.mem_or_eq_of_mem_set hr with hr|hr
    ·exact i2 r hr
    ·rw [hr];exact hv
   ·dsimp only;rw [cC (by omega)]
  ·unfold zP;exact iI hx ⟨by omega,hI.2⟩
def Ol (n:Nat) (l:List Int):Prop:=l.length≤n∧∀i∈l,0≤i∧i<n
theorem Om (r:dc) (hr:r.Read.length≤40):dg (xr r) (Ol r.Read.length):=by
 unfold xr;refine bb (Q:=Ol r.Read.length) ?_ (fun v hv=>bF hv);refine gE r.Read.length (fun q:List Int×Int=>q.2) (fun x=>((x.1.length:Nat):Int)≤x.2∧∀i∈x.1,0≤i∧i<r.Read.length) (fun x j hI hx hj=>?_) (fun x hI hx=>?_) ⟨Int.le_refl _,fun i hi=>by cases hi⟩ rfl (Nat.zero_le _)
 ·obtain⟨i1,i2⟩:=hI;unfold zR;refine iJ hx hj ?_;rw [hx] at i1⊢;refine bb (fb hj) (fun e _=>cr (fun _=>bb (Hm (by simp only [List.length_cons,List.length_nil];omega) (by simp only [List.length_cons,List.length_nil];omega)) ?_) (fun _=>bF (.inl ⟨_,rfl,⟨?_,i2⟩,?_⟩)))
  ·rintro l2 rfl;refine bF (.inl ⟨_,rfl,⟨?_,fun i hi=>?_⟩,?_⟩)
   ·dsimp only;rw [cC (by omega),List.length_append,List.length_cons,List.length_nil];omega
   ·rcases List.mem_append.1 hi with hi|hi
    ·exact i2 i hi
    ·rw [List.mem_singleton] at hi;omega
   ·dsimp only;rw [cC (by omega)]
  ·dsimp only;rw [cC (by omega)];omega
  ·dsimp only;rw [cC (by omega)]
 ·unfold zR;exact iI hx ⟨by have:=hI.1;omega,hI.2⟩
theorem va {n:Int} (h:(n !=0)=false):n=0:=by simpa using h
theorem DY {a n:Int} (ha:0≤a) (hn:0<n):0≤Int.tmod a n∧Int.tmod a n<n:=⟨Int.tmod_nonneg _ ha,Int.tmod_lt_of_pos _ hn⟩
theorem arb (r:dc) (lim:Int) (hr:r.Read.length≤40):dg (CN r lim) (fun v=>v.Read.length≤40):=by
 unfold CN zJ tk;refine bb (Q:=fun v=>v=r) (bb (xO (by omega) (by omega)) (by rintro v rfl;exact bF rfl)) ?_;rintro v rfl;refine bb (Om v hr) (fun mv hm=>cr (fun _=>bF hr) (fun _=>cr (fun _=>bF hr) (fun h2=>bb (Hn v) (fun c _=>cr (fun _=>bF hr) (fun _=>bb (Q:=fun l:List eJ=>l.length=v.Read.length) ?_ (fun l hl=>bF (by dsimp only;omega)))))));have h2:=of_decide_eq_false h2;obtain⟨m1,m2⟩:=hm;refine gE mv.length (fun q:Int×List eJ=>q.1) (fun x=>x.2.length=v.Read.length) (fun x j hI hx hj=>?_) (fun x hI hx=>?_) rfl rfl (Nat.zero_le _)
 ·unfold zT;refine iJ hx hj (bb (Q:=fun l:List eJ=>l.length=v.Read.length) ?_ (fun l hl=>bF (.inl ⟨_,rfl,hl,?_⟩)))
  ·rw [hx];refine bb (fb hj) ?_;rintro e rfl;obtain⟨e1,e2⟩:=m2 _ (List.getElem_mem hj);refine bb (Q:=fun _=>True) ?_ (fun o _=>cr (fun _=>bb (iD e1 (by omega)) (fun _ _=>bF (by rw [lB];exact hI))) (fun _=>bF hI));refine gE 2 (fun q:Bool×Int=>q.2) (fun _=>True) (fun y k _ hy hk=>?_) (fun y _ hy=>?_) trivial rfl (Nat.zero_le _)
   ·unfold zS;have kh:decide (y.2<2)=true:=decide_eq_true (by omega);rw [kh,cond_true,hy];refine bb (Q:=fun a:Int=>a=-1∨a=1) ?_ (fun a ha=>cr (fun _=>?_) (fun h0=>absurd (va h0) (by omega)))
    ·match k,hk with
     |0,_=>exact⟨_,rfl,.inl rfl⟩
     |1,_=>exact⟨_,rfl,.inr rfl⟩
    ·have tG:0≤U (U ((j:Int)+((mv.length:Nat):Int))+a):=by
      rw [b_ (n:=(j:Int)+_) (by omega) (by omega),b_ (by omega) (by omega)];omega
     obtain⟨t1,t2⟩:=DY tG (show(0:Int)<((mv.length:Nat):Int) by omega)
     refine bb (iD t1 t2) (fun OU DU=>?_);obtain⟨f1,f2⟩:=m2 _ DU;have nx:∀b:Bool,dg (some (κ (b,U ((k:Int)+1))):Option ((Bool×Int)⊕Bool)) (fun z=>(∃x',z=.inl x'∧True∧x'.2=((k+1:Nat):Int))∨∃y,z=.inr y∧True):=fun b=>bF (.inl ⟨_,rfl,trivial,cC (by omega)⟩)
     exact bb (iD f1 (by omega)) (fun e3 _=>cr (fun _=>bb (iD e1 (by omega)) (fun e4 _=>nx _)) (fun _=>nx _))
   ·unfold zS;have kh:decide (y.2<2)=false:=decide_eq_false (by omega);rw [kh];exact bF ⟨_,rfl,trivial⟩
  ·dsimp only;rw [hx,cC (by omega)]
 ·unfold zT;exact iI hx hI
theorem Z6 {r:dc} (hr:r.Read.length≤40) {l:List Int} (hm:Ol r.Read.length l) {k:Nat} (hk:k<l.length):dg (zV r l (k:Int)) (fun v=>v≤80):=by
 obtain⟨m1,m2⟩:=hm;unfold zV;refine cr (fun h=>?_) (fun h=>?_)
 ·have h:=of_decide_eq_true h;rw [cC (by omega)] at h⊢;have kh:k+1<l.length:=by omega
  refine bb (fb kh) ?_;rintro e rfl;refine bb (fb hk) ?_;rintro e1 rfl;obtain⟨a1,a2⟩:=m2 _ (List.getElem_mem kh);obtain⟨b1,b2⟩:=m2 _ (List.getElem_mem hk);refine bF ?_;rw [b_ (n:=l[k+1] -l[k]) (by omega) (by omega),b_ (by omega) (by omega)];omega
 ·refine bb (iD (Int.le_refl 0) (by omega)) (fun e he=>bb (fb hk) ?_);rintro e1 rfl;obtain⟨a1,a2⟩:=m2 _ he;obtain⟨b1,b2⟩:=m2 _ (List.getElem_mem hk);refine bF ?_;rw [b_ (n:=e+_) (by omega) (by omega),b_ (n:=e+_ -_) (by omega) (by omega),b_ (by omega) (by omega)];omega
theorem arc (r:dc) (hr:r.Read.length≤40):dg (CP r) (fun _=>True):=by
 unfold CP;refine bb (Om r hr) (fun mv hm=>cr (fun _=>bF trivial) (fun _=>bb (Q:=fun _=>True) ?_ (fun _ _=>bF trivial)));have hl:=hm.1;refine gE mv.length (fun q:Int×Int=>q.2) (fun _=>True) (fun x j _ hx hj=>?_) (fun x _ hx=>?_) trivial rfl (Nat.zero_le _)
 ·unfold zW;refine iJ hx hj ?_;rw [hx];refine bb (Z6 hr hm hj) (fun b _=>bF (.inl ⟨_,rfl,trivial,?_⟩));dsimp only;rw [cC (by omega)]
 ·unfold zW;exact iI hx trivial
theorem Z7 (a:Int) {b:Int} (hb:b≠0):dg (zY a b) (fun _=>True):=by
 unfold zY;rw [kc hb,cond_true,cond_true];exact cr (fun _=>bF trivial) (fun _=>bF trivial)
theorem ard (r:dc) (eM:Int) (hr:r.Read.length≤40):dg (CR r eM) (fun v=>v.1.length≤40):=by
 unfold CR;refine bb (Hn r) (fun c hc=>cr (fun _=>bF (Nat.zero_le _)) (fun h0=>bb (Om r hr) (fun mv hm=>bb (arc r hr) (fun g _=>bb (Q:=fun z=>(∃v:(List a7)×Int,z=.inl v∧v.1=[])∨z=.inr ()) (cr (fun _=>bF (.inl ⟨_,rfl,rfl⟩)) (fun _=>cr (fun _=>cr (fun _=>bF (.inl ⟨_,rfl,rfl⟩)) (fun _=>bF (.inr rfl))) (fun _=>bF (.inr rfl)))) ?_))))
 have hc8:8≤r.Read.length:=by
  have:c=0:=by simpa using h0
  exact(hc this).1
 have hml:=hm.1;rintro z (⟨v,rfl,hv⟩|rfl)
 ·exact bF (by rw [hv];exact Nat.zero_le _)
 ·rw [Sum.elim_inr];refine bb (xN (by omega) (by omega)) ?_;rintro m rfl;refine bb (Q:=fun p:List a7=>p.length=r.Read.length) ?_ (fun p hp=>bF (by dsimp only;omega));refine gE mv.length (fun q:Int×List a7=>q.1) (fun x=>x.2.length=r.Read.length) (fun x j hI hx hj=>?_) (fun x hI hx=>?_) (by simp) rfl (Nat.zero_le _)
  ·unfold zZ;refine iJ hx hj (bb (Q:=fun p:List a7=>p.length=r.Read.length) ?_ (fun p hp=>bF (.inl ⟨_,rfl,hp,?_⟩)))
   ·rw [hx];refine bb (fb hj) ?_;rintro e rfl;obtain⟨e1,e2⟩:=hm.2 _ (List.getElem_mem hj);refine bb (iD e1 (by omega)) (fun rd _=>cr (fun _=>?_) (fun h=>absurd (va h) (by omega)));have tG:0≤U ((j:Int)+1):=by rw [cC (by omega)];omega
    obtain⟨t1,t2⟩:=DY tG (show(0:Int)<((mv.length:Nat):Int) by omega)
    refine bb (iD t1 t2) (fun i2 A_=>?_);obtain⟨f1,f2⟩:=hm.2 _ A_;refine bb (iD f1 (by omega)) (fun rd2 _=>bb (iD e1 (by omega)) (fun _ _=>bb (Z6 hr hm hj) (fun bv Z8=>?_)));refine gE 100 (fun q:Int×List a7=>q.1) (fun x=>x.2.length=r.Read.length∧1≤x.1∧x.1≤82) (fun y k DA hy hk=>?_) (fun y DA hy=>?_) (j0:=1) ⟨by rw [lB];exact hI,Int.le_refl 1,by show(1:Int)≤82;decide⟩ rfl (by decide)
    ·obtain⟨i1,i2,i3⟩:=DA;unfold CQ;refine cr (fun hle=>?_) (fun _=>bF (.inr ⟨_,rfl,i1⟩));have hle:=of_decide_eq_true hle;refine cr (fun _=>?_) (fun h=>absurd (va h) (by omega));have eS:U (bv+1)≠0:=by rw [b_ (by omega) (by omega)];omega
     have tG:0≤U (mv[j]+y.1):=by rw [b_ (by omega) (by omega)];omega
     obtain⟨t1,t2⟩:=DY tG (show(0:Int)<((y.2.length:Nat):Int) by omega)
     refine bb (Z7 _ eS) (fun _ _=>bb (Z7 _ eS) (fun _ _=>bb (iD t1 t2) (fun _ _=>bF (.inl ⟨_,rfl,⟨by dsimp only;rw [lB];exact i1,?_,?_⟩,?_⟩))))
     ·dsimp only;rw [b_ (by omega) (by omega)];omega
     ·dsimp only;rw [b_ (by omega) (by omega)];omega
     ·dsimp only;rw [hy,cC (by omega)]
    ·exact absurd DA.2.2 (by omega)
   ·dsimp only;rw [hx,cC (by omega)]
  ·unfold zZ;exact iI hx hI
def RP (q:a7):Prop:=(-600≤q.X∧q.X≤600)∧(-600≤q.Y∧q.Y≤600)
theorem Z9 {n:Int} (h:(!(xt n))=false):-600≤n∧n≤600:=by
 unfold xt at h;by_cases h1:-600≤n
 ·rw [decide_eq_true h1,cond_true] at h;exact⟨h1,by simpa using h⟩
 ·rw [decide_eq_false h1] at h;cases h
theorem On (p:List a7) (hp:p.length≤1000):dg (xu p) (fun b=>b=true→∀q∈p,RP q):=by
 unfold xu;refine bb (Q:=fun z=>z=.inl false∨(z=.inr ()∧∀q∈p,RP q)) ?_ ?_
 ·refine gE p.length (fun q:Int=>q) (fun x=>∀(j:Nat) (hj:j<p.length),(j:Int)<x→RP p[j]) (fun x j hI hx hj=>?_) (fun x hI hx=>?_) (fun j _ h=>absurd h (by omega)) rfl (Nat.zero_le _)
  ·unfold Aa;subst hx;refine iJ rfl hj (bb (fb hj) ?_);rintro e rfl;refine cr (fun _=>bF (.inr ⟨_,rfl,.inl rfl⟩)) (fun h1=>cr (fun _=>bF (.inr ⟨_,rfl,.inl rfl⟩)) (fun h2=>bF (.inl ⟨_,rfl,?_,cC (by omega)⟩)));rw [cC (by omega)];intro k hk cn;by_cases e:k=j
   ·subst e;exact⟨Z9 h1,Z9 h2⟩
   ·exact hI k hk (by omega)
  ·unfold Aa;refine iI hx (.inr ⟨rfl,fun q hq=>?_⟩);obtain⟨k,hk,rfl⟩:=List.mem_iff_getElem.1 hq;exact hI k hk (by omega)
 ·rintro z (rfl|⟨rfl,h⟩)
  ·exact bF (fun h=>by cases h)
  ·exact bF (fun _=>h)
theorem are (p:List a7) (hp:p.length≤1000):dg (CS p) (fun _=>True):=by
 unfold CS;refine cr (fun _=>bF trivial) (fun _=>cr (fun _=>bF trivial) (fun _=>bb (On p hp) (fun b _=>cr (fun _=>bF trivial) (fun _=>bb (Q:=fun _=>True) ?_ (fun a _=>cr (fun _=>bF trivial) (fun _=>bF trivial))))));unfold Gw;refine cr (fun _=>bF trivial) (fun _=>bb (On p hp) (fun b _=>cr (fun _=>bF trivial) (fun _=>bb (Q:=fun _=>True) ?_ (fun _ _=>bF trivial))));refine gE p.length (fun q:Int×Int=>q.2) (fun _=>True) (fun x j _ hx hj=>?_) (fun x _ hx=>?_) trivial rfl (Nat.zero_le _)
 ·unfold Ac;refine iJ hx hj ?_;rw [hx];have tG:0≤U ((j:Int)+1):=by rw [cC (by omega)];omega
  obtain⟨t1,t2⟩:=DY tG (show(0:Int)<((p.length:Nat):Int) by omega)
  exact bb (fb hj) (fun e _=>cr (fun _=>bb (iD t1 t2) (fun e1 _=>bF (.inl ⟨_,rfl,trivial,cC (by omega)⟩))) (fun h=>absurd (va h) (by omega)))
 ·unfold Ac;exact iI hx trivial
theorem Ho {α:Type} {xs:List α} {n:Int} (h0:0≤n) (h:n≤xs.length):dg (kF xs n) (fun v=>v=xs.take n.toNat):=by
 unfold kF;rw [decide_eq_true h0,decide_eq_true h];exact⟨_,rfl,rfl⟩
theorem Z_ (p:List a7) (hp:p.length≤1000) (h0:p≠[]):dg (Ah p) (fun v=>v.length≤p.length∧∀q∈v,q∈p):=by
 have nh:=List.length_pos_iff.2 h0;unfold Ah;refine bb (Q:=fun v:List a7=>(1≤v.length∧v.length≤p.length)∧∀q∈v,q∈p) ?_ (fun v hv=>?_)
 ·refine gE p.length (fun q:List a7×Int=>q.2) (fun x=>((x.1.length:Nat):Int)≤x.2∧(1≤x.2→1≤x.1.length)∧∀q∈x.1,q∈p) (fun x j hI hx hj=>?_) (fun x hI hx=>?_) ⟨Int.le_refl _,fun h=>absurd h (by decide),fun q hq=>by cases hq⟩ rfl (Nat.zero_le _)
  ·obtain⟨i1,i2,i3⟩:=hI;unfold Ag;refine iJ hx hj (bb (Q:=fun l:List a7=>(1≤l.length∧((l.length:Nat):Int)≤x.2+1)∧∀q∈l,q∈p) ?_ (fun l hl=>bF (.inl ⟨_,rfl,⟨?_,fun _=>hl.1.1,hl.2⟩,?_⟩)))
   ·rw [hx] at i1⊢;refine bb (fb hj) ?_;rintro e rfl;refine bb (Q:=fun l:List a7=>l.length≤x.1.length∧∀q∈l,q∈p) ?_ (fun l hl=>bb (Hm (by simp only [List.length_cons,List.length_nil];omega) (by simp only [List.length_cons,List.length_nil];omega)) ?_)
    ·refine uj (step:=fun q=>Af p[j] q) (fun l:List a7=>l.length≤x.1.length∧∀q∈l,q∈p) (fun l=>l.length) (fun l:List a7=>l.length≤x.1.length∧∀q∈l,q∈p) (fun l hl=>?_) x.1 ⟨Nat.le_refl _,i3⟩;obtain⟨l1,l2⟩:=hl;unfold Af;by_cases h2:2≤l.length
     ·rw [decide_eq_true (by omega),cond_true,b_ (n:=_ -2) (by omega) (by omega),b_ (n:=_ -1) (by omega) (by omega)];obtain⟨a,a1,_⟩:=iD (xs:=l) (i:=((l.length:Nat):Int) -2) (by omega) (by omega);obtain⟨b,b1,_⟩:=iD (xs:=l) (i:=((l.length:Nat):Int) -1) (by omega) (by omega);obtain⟨c,c1,c2⟩:=Ho (xs:=l) (n:=((l.length:Nat):Int) -1) (by omega) (by omega);rw [a1,aT,b1,aT,c1,aT];cases decide (CU a b p[j]≤0) with
      |false=>exact .inr ⟨_,rfl,l1,l2⟩
      |true=>
       refine .inl ⟨_,rfl,⟨?_,fun q hq=>l2 q ?_⟩,?_⟩
       ·rw [c2,List.length_take];omega
       ·rw [c2] at hq;exact List.mem_of_mem_take hq
       ·rw [c2,List.length_take];omega
     ·rw [decide_eq_false (by omega)];exact .inr ⟨_,rfl,l1,l2⟩
    ·rintro v rfl;refine bF ⟨⟨?_,?_⟩,fun q hq=>?_⟩
     ·rw [List.length_append,List.length_cons,List.length_nil];omega
     ·rw [List.length_append,List.length_cons,List.length_nil];have:=hl.1;omega
     ·rcases List.mem_append.1 hq with hq|hq
      ·exact hl.2 q hq
      ·rw [List.mem_singleton] at hq;rw [hq];exact List.getElem_mem hj
   ·dsimp only;rw [hx] at hl⊢;rw [cC (by omega)];have:=hl.1.2;omega
   ·dsimp only;rw [hx,cC (by omega)]
  ·unfold Ag;refine iI hx ⟨⟨hI.2.1 (by omega),by have:=hI.1;omega⟩,hI.2.2⟩
 ·obtain⟨⟨v1,v2⟩,v3⟩:=hv;rw [b_ (by omega) (by omega)];refine bb (Ho (by omega) (by omega)) ?_;rintro w rfl;exact bF ⟨by rw [List.length_take];omega,fun q hq=>v3 q (List.mem_of_mem_take hq)⟩
theorem arf (s:List a7) (hs:s.length≤1000):dg (CV s) (fun v=>v.length=s.length∧∀q∈v,q∈s):=by
 unfold CV;refine gE 1000 (fun q:Int×Int×List a7=>q.1) (fun x=>(x.2.2.length=s.length∧∀q∈x.2.2,q∈s)∧x.2.1≤((s.length:Nat):Int) -1) (fun x j hI hx hj=>?_) (fun x hI hx=>?_) ⟨⟨rfl,fun q h=>h⟩,?_⟩ rfl (Nat.zero_le _)
 ·obtain⟨⟨i1,i2⟩,i3⟩:=hI;unfold Ai;refine cr (fun h=>?_) (fun _=>bF (.inr ⟨_,rfl,i1,i2⟩));have h:=of_decide_eq_true h;rw [hx] at h⊢;refine bb (iD (xs:=x.2.2) (by omega) (by omega)) (fun e he=>bb (iD (xs:=x.2.2) (by omega) (by omega)) (fun e1 Oo=>bb (iD (xs:=x.2.2) (by omega) (by omega)) (fun e2 _=>bb (iD (xs:=bp x.2.2 (j:Int) e) (by omega) (by rw [lB];omega)) (fun e3 _=>bF (.inl ⟨_,rfl,⟨⟨?_,fun q hq=>?_⟩,?_⟩,?_⟩)))))
  ·dsimp only;rw [lB,lB];exact i1
  ·rcases List.mem_or_eq_of_mem_set hq with hq|hq
   ·rcases List.mem_or_eq_of_mem_set hq with hq|hq
    ·exact i2 q hq
    ·rw [hq];exact i2 e he
   ·rw [hq];exact i2 e1 Oo
  ·dsimp only;rw [b_ (by omega) (by omega)];omega
  ·dsimp only;rw [cC (by omega)]
 ·unfold Ai;rw [decide_eq_false (by have:=hI.2;omega)];exact bF ⟨_,rfl,hI.1⟩
 ·dsimp only;rw [b_ (by omega) (by omega)];omega
theorem arh (s:List a7) (hs:s.length≤1000) (h0:s≠[]):dg (CT s) (fun v=>v≠[]∧v.length≤s.length∧∀q∈v,q∈s):=by
 have nh:=List.length_pos_iff.2 h0;unfold CT;refine cr (fun _=>bF ⟨h0,Nat.le_refl _,fun _ h=>h⟩) (fun h2=>?_);have h2:=of_decide_eq_false h2;refine bb (Q:=fun z=>(∃v,z=.inl v∧v≠[]∧v.length≤s.length∧∀q∈v,q∈s)∨z=.inr ()) ?_ ?_
 ·refine gE s.length (fun q:Int=>q) (fun x=>1≤x) (fun x k h1 hx hk=>?_) (fun x _ hx=>?_) (j0:=1) (Int.le_refl 1) rfl (by omega)
  ·unfold Ae;subst hx;refine iJ rfl hk (bb (Q:=fun z=>(∃v:List a7,z=.inl (.inr (.inl v))∧v≠[]∧v.length≤s.length∧∀q∈v,q∈s)∨z=.inr ()) ?_ ?_)
   ·refine bb (fb hk) (fun e _=>?_);rw [b_ (n:=(k:Int) -1) (by omega) (by omega)];refine bb (iD (xs:=s) (by omega) (by omega)) (fun e1 _=>cr (fun _=>?_) (fun _=>bF (.inr rfl)));rw [decide_eq_true (show(0:Int)≤k by omega),decide_eq_true (show(k:Int)<((s.length:Nat):Int) by omega),decide_eq_true (show(k:Int)≤((s.length:Nat):Int) by omega),decide_eq_true (Int.le_refl ((s.length:Nat):Int))]
    simp only [Bool.and_self,cond_true];refine bb (Q:=fun w:List a7×Int=>(w.1.length=s.length∧∀q∈w.1,q∈s)∧(k:Int)≤w.2∧w.2<((s.length:Nat):Int)) ?_ ?_
    ·refine gE (s.length -k) (fun q:Int×Int×List a7=>q.2.1) (fun x=>(x.2.2.length=s.length∧∀q∈x.2.2,q∈s)∧(k:Int)≤x.1∧x.1≤(k:Int)+x.2.1 -1∧1≤x.2.1) (fun x j hI hx hj=>?_) (fun x hI hx=>?_) (j0:=1) ⟨⟨rfl,fun q h=>h⟩,Int.le_refl _,by show(k:Int)≤(k:Int)+1 -1;omega,Int.le_refl 1⟩ rfl (by omega)
     ·obtain⟨⟨i1,i2⟩,i3,i4,i5⟩:=hI;obtain⟨a,b,xs⟩:=x;dsimp only at i1 i2 i3 i4 i5 hx;subst hx;unfold Ad;dsimp only;have hm:((((s.length:Nat):Int).toNat -(k:Int).toNat:Nat):Int)=((s.length -k:Nat):Int):=by omega
      rw [hm,decide_eq_true (show(j:Int)<((s.length -k:Nat):Int) by omega),cond_true,decide_eq_true (show(0:Int)≤k by omega),decide_eq_true (show(0:Int)≤j by omega),decide_eq_true (show(j:Int)<((s.length:Nat):Int) -(k:Int) by omega),b_ (n:=(j:Int) -1) (by omega) (by omega),decide_eq_true (show(0:Int)≤(j:Int) -1 by omega),decide_eq_true (show(j:Int) -1<((s.length:Nat):Int) -(k:Int) by omega)]
      simp only [Bool.and_self,cond_true];refine bb (iD (xs:=xs) (by omega) (by omega)) (fun e2 _=>bb (iD (xs:=xs) (by omega) (by omega)) (fun e3 _=>cr (fun _=>bb (iD (xs:=xs) (by omega) (by omega)) (fun e4 AR=>bb (iD (xs:=xs) (by omega) (by omega)) (fun e5 _=>bF (.inl ⟨_,rfl,⟨⟨?_,fun q hq=>?_⟩,?_,?_,?_⟩,?_⟩)))) (fun _=>bF (.inl ⟨_,rfl,⟨⟨i1,i2⟩,i3,?_,?_⟩,?_⟩))))
      ·dsimp only;rw [lB];exact i1
      ·rcases List.mem_or_eq_of_mem_set hq with hq|hq
       ·exact i2 q hq
       ·rw [hq];exact i2 e4 AR
      all_goals dsimp only
      ·rw [b_ (by omega) (by omega)];omega
      ·rw [b_ (n:=a+1) (by omega) (by omega),cC (by omega)];omega
      ·rw [cC (by omega)];omega
      ·rw [cC (by omega)]
      ·rw [cC (by omega)];omega
      ·rw [cC (by omega)];omega
      ·rw [cC (by omega)]
     ·unfold Ad;rw [decide_eq_false (by omega)];exact bF ⟨_,rfl,hI.1,hI.2.1,by have:=hI.2.2.1;dsimp only;omega⟩
    ·rintro⟨xs,a⟩ ⟨⟨i1,i2⟩,i3,i4⟩;dsimp only at i1 i2 i3 i4⊢;obtain⟨n,rfl⟩:=Int.eq_ofNat_of_zero_le (show 0≤a by omega)
     rw [i1,decide_eq_true (show(0:Int)≤n by omega),decide_eq_true (show(n:Int)<((s.length:Nat):Int) by omega),decide_eq_true (show(n:Int)≤((s.length:Nat):Int) by omega),decide_eq_true (Int.le_refl ((s.length:Nat):Int))]
     simp only [Bool.and_self,cond_true];have pb:n<s.length:=by omega
     rw [show((s.length:Nat):Int).toNat=s.length from rfl,show((n:Nat):Int).toNat=n from rfl,show Nat.ble (n+(s.length -n)) s.length=true from Nat.ble_eq_true_of_le (by omega),show Nat.blt 0 (s.length -n)=true from Nat.ble_eq_true_of_le (by omega)]
     simp only [Bool.and_self,cond_true];refine u_ (bb (Ho (by omega) ?_) ?_)
     ·unfold sB;simp;omega
     ·rintro w rfl
      have e:(sB (⟨0,0⟩:a7) xs n (s.length -n)).take ((n:Nat):Int).toNat=xs.take n:=by
       unfold sB;rw [show((n:Nat):Int).toNat=n from rfl,List.append_assoc,List.take_append_of_le_length (by simp;omega),List.take_take,Nat.min_self]
      rw [e];refine bF (.inl ⟨_,rfl,?_,?_,fun q hq=>i2 q (List.mem_of_mem_take hq)⟩)
      ·intro h;have:=congrArg List.length h;rw [List.length_take,List.length_nil] at this;omega
      ·rw [List.length_take];omega
   ·rintro z (⟨v,rfl,hv⟩|rfl)
    ·exact bF (.inr ⟨_,rfl,.inl ⟨v,rfl,hv⟩⟩)
    ·exact bF (.inl ⟨_,rfl,by rw [cC (by omega)];omega,cC (by omega)⟩)
  ·unfold Ae;exact iI hx (.inr rfl)
 ·rintro z (⟨v,rfl,hv⟩|rfl)
  ·exact bF hv
  ·exact bF ⟨h0,Nat.le_refl _,fun _ h=>h⟩
theorem ari (xs:List a7) (h:xs.length≤1000):dg (CX xs) (fun v=>v.length=xs.length∧∀q∈v,q∈xs):=by
 unfold CX MW;rw [decide_eq_true (by omega)];exact bF ⟨List.length_mergeSort _,fun q hq=>List.mem_mergeSort.1 hq⟩
theorem Z' {α:Type} {P:α→Prop} {a b:Nat} (h:a=b) {o o':Option α} (k:dg o P):dg (bif Nat.beq a b then o else o') P:=by
 subst h;rw [Nat.beq_refl];exact k
theorem arj (p:List a7) (hp:p.length≤1000):dg (CY p) (fun v=>v.length≤64∧∀q∈v,RP q):=by
 have hE:dg (some ([]:List a7)) (fun v=>v.length≤64∧∀q∈v,RP q):=bF ⟨Nat.zero_le _,fun q hq=>by cases hq⟩;unfold CY Gx;refine cr (fun _=>hE) (fun h3=>cr (fun _=>hE) (fun h32=>bb (On p hp) (fun b hb=>cr (fun _=>hE) (fun hr=>bb (xO (by omega) (by omega)) ?_))));have h3:=of_decide_eq_false h3;have h32:=of_decide_eq_false h32;have hR:∀q∈p,RP q:=hb (by simpa using hr)
 rintro pv rfl;refine bb (ari pv hp) (fun s hs=>Z' hs.1 (bb (arh s (by omega) (fun e=>by rw [e] at hs;have:=hs.1;simp at this;omega)) (fun c hc=>bb (Z_ c (by omega) hc.1) (fun c1 vI=>bb (arf c (by omega)) (fun r AF=>Z' AF.1 (bb (Z_ r (by omega) (fun e=>by rw [e] at AF;have:=AF.1;have:=List.length_pos_iff.2 hc.1;simp at*;omega)) (fun c2 Hp=>bb (Hm (by have:=vI.1;have:=Hp.1;omega) (by have:=vI.1;have:=Hp.1;omega)) ?_)))))));rintro l rfl;refine cr (fun _=>hE) (fun _=>bF ⟨?_,fun q hq=>hR q (hs.2 q (hc.2.2 q ?_))⟩)
 ·have:=vI.1;have:=Hp.1;rw [List.length_append];omega
 ·rcases List.mem_append.1 hq with hq|hq
  ·exact vI.2 q hq
  ·exact AF.2 q (Hp.2 q hq)
theorem ark (p:List a7) (hp:p.length≤1000):dg (CZ p) (fun _=>True):=by
 unfold CZ;refine cr (fun _=>bF trivial) (fun h0=>?_)
 have h0:0<p.length:=by
  have:((p.length:Nat):Int)≠0:=by simpa using h0
  omega
 have g:dg (aK p 0) (fun v=>v∈p):=iD (Int.le_refl 0) (by omega);refine bb g (fun _ _=>bb g (fun _ _=>bb g (fun _ _=>bb g (fun _ _=>bb (Q:=fun _=>True) ?_ (fun _ _=>bF trivial)))));refine gE p.length (fun q:Int×aH=>q.1) (fun _=>True) (fun x j _ hx hj=>?_) (fun x _ hx=>?_) trivial rfl (Nat.zero_le _)
 ·unfold Ak;refine iJ hx hj ?_;rw [hx];exact bb (fb hj) (fun e _=>bF (.inl ⟨_,rfl,trivial,cC (by omega)⟩))
 ·unfold Ak;exact iI hx trivial
theorem aab (a:Int) {b:Int} (hb:b≠0):dg (Al a b) (fun _=>True):=by
 unfold Al;rw [kc hb,cond_true,cond_true];exact cr (fun _=>bF trivial) (fun _=>bF trivial)
theorem aac (y:Int) (r:aH) (p:List a7) (hp:p.length≤1000) (hR:∀q∈p,RP q):dg (An y r p) (fun _=>True):=by
 unfold An;refine bb (Q:=fun _=>True) ?_ (fun _ _=>bF trivial);refine gE p.length (fun q:Int×Int×Int=>q.2.2) (fun _=>True) (fun x j _ hx hj=>?_) (fun x _ hx=>?_) trivial rfl (Nat.zero_le _)
 ·unfold Am;refine iJ hx hj ?_;rw [hx];have tG:0≤U ((j:Int)+1):=by rw [cC (by omega)];omega
  obtain⟨t1,t2⟩:=DY tG (show(0:Int)<((p.length:Nat):Int) by omega)
  refine bb (fb hj) ?_;rintro e rfl;have r1:=hR _ (List.getElem_mem hj);refine cr (fun _=>bb (iD t1 t2) (fun e1 Oo=>?_)) (fun h=>absurd (va h) (by omega));have r2:=hR _ Oo;obtain⟨_,a1,a2⟩:=r1;obtain⟨_,b1,b2⟩:=r2;refine u_ (cr (fun h=>?_) (fun _=>u_ (cr (fun h=>?_) (fun _=>bF (.inl ⟨_,rfl,trivial,cC (by omega)⟩)))))
  ·have cn:p[j].Y<e1.Y:=by
    by_cases q:p[j].Y<e1.Y
    ·exact q
    ·rw [decide_eq_false q] at h;cases h
   exact bb (aab _ (by rw [b_ (by omega) (by omega)];omega)) (fun _ _=>bF (.inl ⟨_,rfl,trivial,cC (by omega)⟩))
  ·have cn:e1.Y<p[j].Y:=by
    by_cases q:e1.Y<p[j].Y
    ·exact q
    ·rw [decide_eq_false q] at h;cases h
   exact bb (aab _ (by rw [b_ (by omega) (by omega)];omega)) (fun _ _=>bF (.inl ⟨_,rfl,trivial,cC (by omega)⟩))
 ·unfold Am;exact iI hx trivial
theorem arl (p:List a7) (lo hi:Int) (hp:p.length≤1000):dg (C0 p lo hi) (fun _=>True):=by
 unfold C0;refine bb (arj p hp) (fun h hh=>bb (ark h (by have:=hh.1;omega)) (fun b _=>cr (fun _=>bF trivial) (fun _=>cr (fun _=>bF trivial) (fun _=>cr (fun _=>bF trivial) (fun _=>cr (fun _=>bF trivial) (fun _=>bb (aac lo b h (by have:=hh.1;omega) hh.2) (fun _ _=>bb (aac hi b h (by have:=hh.1;omega) hh.2) (fun _ _=>cr (fun _=>bF trivial) (fun _=>bF trivial)))))))))
def o5 (s:cb):Prop:=-60≤s.bY∧s.bY≤60
theorem arn:o5 ⟨0,[]⟩:=⟨by decide,by decide⟩
theorem aad {rowf:Int→Option Sp} (aro:∀r,-60≤r→r<60→dg (rowf r) (fun _=>True)) {step:Int×Int×Int×List Sp→Option ((Int×Int×Int×List Sp)⊕(Int×Int×List Sp))}
  (u9:∀gW vr s2 s3,step (gW,vr,s2,s3)=(bif(decide (vr<60)) then(β (rowf vr) (fun ov=>(bif(!(mP ov)) then(bif(gW==0) then(β (dF 16 s3 ([ov])) (fun l=>some (κ (((l.length:Nat):Int),U (vr+1),vr,l)))) else(β (dF 16 s3 ([ov])) (fun l1=>some (κ (((l1.length:Nat):Int),U (vr+1),s2,l1))))) else(bif(decide (0<gW)) then(β (dF 16 s3 ([(⟨0,0⟩:Sp)])) (fun l2=>some (κ (gW,U (vr+1),s2,l2)))) else some (κ (gW,U (vr+1),s2,s3)))))) else some (ι (gW,s2,s3)))):
  dg (β (bR step (0,-60,0,[])) (fun w1=>(β (kF w1.2.2 w1.1) (fun l3=>some (⟨w1.2.1,l3⟩:cb))))) o5:=by
 refine bb (Q:=fun w:Int×Int×List Sp=>(0≤w.1∧w.1≤((w.2.2.length:Nat):Int))∧-60≤w.2.1∧w.2.1≤60) ?_ (fun w hw=>bb (Ho hw.1.1 hw.1.2) (fun _ _=>bF hw.2));refine gE 120 (fun q:Int×Int×Int×List Sp=>q.2.1+60) (fun x=>(0≤x.1∧x.1≤((x.2.2.2.length:Nat):Int))∧(((x.2.2.2.length:Nat):Int)≤x.2.1+60)∧-60≤x.2.2.1∧x.2.2.1≤60) (fun x j hI hx hj=>?_) (fun x hI hx=>?_) (j0:=0) ⟨⟨Int.le_refl _,Int.le_refl _⟩,Int.le_refl _,by decide,by decide⟩ rfl (Nat.zero_le _)
 ·obtain⟨u,vr,lo,rs⟩:=x;obtain⟨⟨i1,i2⟩,i3,i4⟩:=hI;dsimp only at i1 i2 i3 i4 hx;rw [u9,decide_eq_true (by omega),cond_true];have hw:U (vr+1)=vr+1:=b_ (by omega) (by omega);have ha:∀e:Sp,dg (dF 16 rs [e]) (fun v=>v=rs++[e]):=fun e=>Hm (by simp only [List.length_cons,List.length_nil];omega) (by simp only [List.length_cons,List.length_nil];omega)
  refine bb (aro vr (by omega) (by omega)) (fun ov _=>cr (fun _=>cr (fun _=>bb (ha ov) ?_) (fun _=>bb (ha ov) ?_)) (fun _=>cr (fun _=>bb (ha ⟨0,0⟩) ?_) (fun _=>bF (.inl ⟨_,rfl,⟨⟨i1,i2⟩,?_,i4⟩,?_⟩))))
  ·rintro l rfl;refine bF (.inl ⟨_,rfl,⟨⟨by dsimp only;omega,Int.le_refl _⟩,?_,?_⟩,?_⟩)
   ·dsimp only;rw [hw,List.length_append,List.length_cons,List.length_nil];omega
   ·dsimp only;omega
   ·dsimp only;rw [hw];omega
  ·rintro l rfl;refine bF (.inl ⟨_,rfl,⟨⟨by dsimp only;omega,Int.le_refl _⟩,?_,i4⟩,?_⟩)
   ·dsimp only;rw [hw,List.length_append,List.length_cons,List.length_nil];omega
   ·dsimp only;rw [hw];omega
  ·rintro l rfl;refine bF (.inl ⟨_,rfl,⟨⟨i1,?_⟩,?_,i4⟩,?_⟩)
   ·dsimp only;rw [List.length_append];omega
   ·dsimp only;rw [hw,List.length_append,List.length_cons,List.length_nil];omega
   ·dsimp only;rw [hw];omega
  ·dsimp only;rw [hw];omega
  ·dsimp only;rw [hw];omega
 ·obtain⟨u,vr,lo,rs⟩:=x;dsimp only at hx;rw [u9,decide_eq_false (by omega)];exact bF ⟨_,rfl,hI.1,hI.2.2⟩
theorem arp (p:List a7) (hp:p.length≤1000):dg (C2 p) (fun v=>o5 v.1):=by
 have h0:o5 ⟨0,[]⟩:=⟨by decide,by decide⟩;unfold C2;refine bb (are p hp) (fun c _=>cr (fun _=>bF h0) (fun _=>bb (Q:=o5) ?_ (fun b hb=>cr (fun _=>bF h0) (fun _=>bF hb))));unfold GB;refine aad (rowf:=fun r=>C1 r p) (fun r _ _=>?_) (fun _ _ _ _=>rfl);unfold C1;exact u_ (bb (arl p _ _ hp) (fun _ _=>bF trivial))
theorem aae (s:cb) (h:o5 s):dg (pE s) oU:=by
 obtain⟨c,c1,c2⟩:=YC s ⟨by have:=h.1;omega,by have:=h.2;omega⟩;unfold pE;rw [GY];refine bb (Q:=fun e=>e=0→oU s) ⟨c,c1,c2⟩ (fun e he=>cr (fun _=>bF ⟨by simp,⟨by decide,by decide⟩,fun e h=>by cases h⟩) (fun h0=>bF (he (va h0))))
theorem aaf {s:cb} (h:oU s) {r:Int} (hr:-60≤r∧r<60):dg (Ao s r) (fun _=>True):=by
 have h1:=h.low;have h2:=h.len;unfold Ao;rw [b_ (n:=s.bY+_) (by omega) (by omega)];refine cr (fun _=>bF trivial) (fun a=>cr (fun _=>bF trivial) (fun b=>?_));have a:=of_decide_eq_false a;have b:=of_decide_eq_false b;rw [b_ (by omega) (by omega)];exact bb (iD (by omega) (by omega)) (fun _ _=>bF trivial)
theorem arq {a b:cb} (ha:o5 a) (hb:o5 b):dg (C5 a b) o5:=by
 unfold C5;refine bb (aae a ha) (fun a' ha'=>bb (aae b hb) (fun b' ig=>bb (Q:=o5) ?_ (fun v hv=>bF hv)));unfold GF;refine aad (rowf:=fun r=>C4 r a' b') (fun r h1 h2=>?_) (fun _ _ _ _=>rfl);unfold C4;exact bb (aaf ha' ⟨h1,h2⟩) (fun _ _=>bb (aaf ig ⟨h1,h2⟩) (fun _ _=>u_ (bF trivial)))
theorem art (r:dc) (lim eM:Int) (hr:r.Read.length≤40):dg (C3 r lim eM) (fun v=>o5 v.1):=by
 unfold C3;exact bb (arb r lim hr) (fun c hc=>bb (ard c eM hc) (fun p hp=>cr (fun _=>bF arn) (fun _=>bb (arp p.1 (by omega)) (fun o ho=>bF ho))))
theorem aru (s:hJ) (lim eM:Int) (h:DX s):dg (C6 s lim eM) (fun v=>lW v.1):=by
 have hE:∀e:Int,dg (some (([]:List aG),e)) (fun v=>lW v.1):=fun e=>bF (fun e h=>by cases h)
 have h1:=h.rings;unfold C6;refine bb (Z5 s) (fun c hc=>cr (fun _=>hE c) (fun h0=>bb (xN (by omega) (by omega)) ?_));have hl:=hc (va h0);rintro m rfl;refine bb (Q:=fun z=>(∃e,z=.inl (([]:List aG),e))∨∃l:List cb,z=.inr l∧l.length=s.cB.length∧∀x∈l,o5 x) ?_ ?_
 ·refine gE s.cB.length (fun q:Int×List cb=>q.1) (fun x=>x.2.length=s.cB.length∧∀q∈x.2,o5 q) (fun x j hI hx hj=>?_) (fun x hI hx=>?_) ⟨by simp,fun q hq=>by rw [List.mem_replicate] at hq;rw [hq.2];exact⟨by decide,by decide⟩⟩ rfl (Nat.zero_le _)
  ·obtain⟨i1,i2⟩:=hI;unfold Ap;refine iJ hx hj ?_;rw [hx];refine bb (fb hj) ?_;rintro e rfl;refine bb (art _ lim eM (h.reads _ (List.getElem_mem hj))) (fun sv hsv=>cr (fun _=>bF (.inr ⟨_,rfl,.inl ⟨_,rfl⟩⟩)) (fun _=>bb (fb (by omega)) (fun _ _=>bF (.inl ⟨_,rfl,⟨?_,fun q hq=>?_⟩,cC (by omega)⟩))))
   ·dsimp only;rw [lB];exact i1
   ·rcases List.mem_or_eq_of_mem_set hq with hq|hq
    ·exact i2 q hq
    ·rw [hq];exact hsv
  ·unfold Ap;exact iI hx (.inr ⟨_,rfl,hI⟩)
 ·rintro z (⟨e,rfl⟩|⟨l,rfl,l1,l2⟩)
  ·exact hE e
  ·rw [Sum.elim_inr,show U (((s.cB.length:Nat):Int) -1)=((s.cB.length -1:Nat):Int) by rw [b_ (by omega) (by omega)];omega]
   refine bb (xN (by omega) (by omega)) ?_;rintro m1 rfl;refine bb (Q:=fun z=>(∃e,z=.inl (([]:List aG),e))∨∃l:List aG,z=.inr l∧lW l) ?_ ?_
   ·refine gE (s.cB.length -1) (fun q:Int×List aG=>q.1) (fun x=>x.2.length=s.cB.length -1∧lW x.2) (fun x j hI hx hj=>?_) (fun x hI hx=>?_) ⟨by simp,fun q hq=>by rw [List.mem_replicate] at hq;rw [hq.2];exact⟨⟨by decide,by decide⟩,⟨by decide,by decide⟩⟩⟩ rfl (Nat.zero_le _)
    ·obtain⟨i1,i2⟩:=hI;unfold Aq;refine iJ hx (by rw [List.length_replicate];exact hj) ?_;rw [hx,cC (by omega)];refine bb (fb (by omega)) ?_;rintro e2 rfl;refine bb (fb (show j+1<l.length by omega)) ?_
     rintro e3 rfl;refine bb (arq (l2 _ (List.getElem_mem _)) (l2 _ (List.getElem_mem _))) (fun mv hmv=>cr (fun _=>bF (.inr ⟨_,rfl,.inl ⟨_,rfl⟩⟩)) (fun _=>bb (fb (show j+1<s.cB.length by omega)) (fun e4 _=>bb (fb (show j<s.cB.length by omega)) (fun e5 _=>bb (fb (by omega)) (fun e6 _=>bF (.inl ⟨_,rfl,⟨?_,fun q hq=>?_⟩,rfl⟩))))))
     ·dsimp only;rw [lB];exact i1
     ·rcases List.mem_or_eq_of_mem_set hq with hq|hq
      ·exact i2 q hq
      ·rw [hq];exact⟨⟨by have:=hmv.1;dsimp only;omega,by have:=hmv.2;dsimp only;omega⟩,VW _⟩
    ·unfold Aq;rw [List.length_replicate];exact iI hx (.inr ⟨_,rfl,hI.2⟩)
   ·rintro z (⟨e,rfl⟩|⟨l',rfl,vh⟩)
    ·exact hE e
    ·exact bF vh
theorem arw (s:hJ) (q lim eM:Int) (h:DX s):dg (C7 s q lim eM) (fun v=>lW v.1∧v.2.1.length≤70∧(v.2.2≠0→v.1=[])):=by
 unfold C7 rE;refine bb (ara s q h) (fun tv u7=>bb (aru tv lim eM u7) (fun bv Z8=>bb (xO (by have:=u7.AS;omega) (by have:=u7.AS;omega)) ?_));rintro dv rfl;refine u_ (bF ?_);unfold GG;cases hb:bv.2!=0 with
 |true=>exact⟨fun e h=>(by cases h),Nat.zero_le _,fun _=>rfl⟩
 |false=>exact⟨Z8,u7.AS,fun h=>absurd (va hb) h⟩
structure MdB where
 Id:ByteArray
 Log:ByteArray
 kO:q_
 jf:Int
 a8:Bx
structure LgB where
 gb:List aG
 dA:List Df
def jD (b:Bx):Int:=if mY b then dV b.x b.y*(b.z.b -b.z.a) else 0
theorem Oq {b:Bx} (h:mY b):nK b.x b.y∧0≤b.z.a∧b.z.a<b.z.b∧b.z.b≤20000:=by
 obtain⟨⟨a1,a2,a3⟩,⟨b1,b2,b3⟩,c1,c2,c3⟩:=h;exact⟨⟨⟨a1,a3,a2⟩,⟨b1,b3,b2⟩⟩,c1,c3,c2⟩
theorem DZ {b:Bx} (h:mY b):1≤dV b.x b.y*(b.z.b -b.z.a)∧dV b.x b.y*(b.z.b -b.z.a)≤28800000000:=by
 obtain⟨hr,h1,h2,h3⟩:=Oq h;have hA:=tD hr;have h4:=Int.mul_le_mul (a:=dV b.x b.y) (c:=1440000) (b:=b.z.b -b.z.a) (d:=20000) (by omega) (by omega) (by omega) (by omega);have h5:=Int.mul_le_mul (a:=1) (c:=dV b.x b.y) (b:=1) (d:=b.z.b -b.z.a) (by omega) (by omega) (by omega) (by omega);omega
theorem arz (b:Bx):0≤jD b∧jD b≤28800000000:=by
 unfold jD;split
 ·rename_i h;have:=DZ h;omega
 ·omega
theorem aah (m:ma):GX m=jD m.a8:=by
 unfold GX jD GW;rw [Yz];by_cases h:mY m.a8
 ·obtain⟨hr,h1,h2,h3⟩:=Oq h;have hA:=tD hr;have hx:=hr.x;have hy:=hr.y;have hp:=DZ h;rw [decide_eq_true h,if_pos h,Bool.not_true,cond_false,b_ (n:=m.a8.x.b -m.a8.x.a) (by omega) (by omega),b_ (n:=m.a8.y.b -m.a8.y.a) (by omega) (by omega),b_ (n:=m.a8.z.b -m.a8.z.a) (by omega) (by omega),show(m.a8.x.b -m.a8.x.a)*(m.a8.y.b -m.a8.y.a)=dV m.a8.x m.a8.y from rfl,b_ (n:=dV m.a8.x m.a8.y) (by omega) (by omega),b_ (by omega) (by omega)]
 ·rw [decide_eq_false h,if_neg h];rfl
theorem arA {l:List aG} {c:Int} (hc:jj l=some c) (h0:c≠0) (b:Bx):nH l b=some 0:=by
 unfold nH qu;rw [uV,hc,aT,kc h0,cond_true,aT]
 have he:uL []=some []:=by
  have:=YU (l:=[]) ⟨by simp,by simp,by simp [bJ]⟩;exact this
 rw [he,aT,gQ (y:=0) (by rfl),aT]
theorem arB {l:List aG} (hl:lW l) (b:Bx):∃v w,nH l b=some v∧tw l b=some w∧0≤w∧w≤1000∧0≤v∧v≤1000000000000∧((w=1000∧(jD b=0∨v<jD b))∨(w≠1000∧0<jD b∧(v=jD b↔w=0)∧v≤jD b∧1000*(jD b -v)≤w*jD b)):=by
 obtain⟨c,hc,fm⟩:=Dz l hl;by_cases h0:c=0
 ·subst h0;have h:=fm rfl;have hlen:=h.len;have hvb:=G8 (X:=b.x) (Y:=b.y) (z:=b.z) l 0 (AI h)
  have vH:0≤bJ l∧bJ l≤20000:=by
   have h1:=pN h l.length (Nat.le_refl _);rw [List.take_length] at h1;exact⟨h1.1,h.ml⟩
  refine⟨_,_,NH h hc b,YX h hc b,?_⟩;by_cases lF:(-600≤b.x.a∧b.x.a<b.x.b∧b.x.b≤600)∧(-600≤b.y.a∧b.y.a<b.y.b∧b.y.b≤600)∧(0≤b.z.a∧b.z.a<b.z.b∧b.z.b≤bJ l)
  ·obtain⟨hx,hy,hz⟩:=lF;have hr:nK b.x b.y:=⟨hx,hy⟩;have o6:mY b:=⟨⟨hx.1,hx.2.2,hx.2.1⟩,⟨hy.1,hy.2.2,hy.2.1⟩,hz.1,by omega,hz.2.1⟩;have hp:=DZ o6;have hB:=YK (z:=b.z) hr l 0 0 (by omega);have hW:=NI hr hz.2.1 l 0 0 (by omega) fun e he=>(h.sec e he).2.1
   have hL:=(NG hz.2.1 l 0 fun e he=>(h.sec e he).2.1).1;have hV:=NF b.x b.y b.z l 0
   have hL2:lz b.z l 0=b.z.b -b.z.a:=by
    rw [hL];unfold cm;dsimp only;omega
   rw [hL2] at hV hW;rw [YY hx,YY hy,apL hz];simp only [Bool.and_true,cond_true];have e:jD b=dV b.x b.y*(b.z.b -b.z.a):=by unfold jD;rw [if_pos o6]
   rw [e];obtain⟨w1,w2,w3,w4,w5,w6⟩:=hW;have w6:=w6 rfl;generalize wn b.x b.y b.z l 0 0=w at*
   generalize dV b.x b.y*(b.z.b -b.z.a)=n at*
   generalize dS b.x b.y b.z l 0=v at*
   generalize lc b.x b.y b.z l 0=q at*
   refine⟨hB.1,hB.2,hvb.1,by omega,?_⟩;by_cases hw:w=1000
   ·refine .inl ⟨hw,.inr ?_⟩;have:q≠0:=fun h=>by have:=w6 h;omega
    omega
   ·refine .inr ⟨hw,by omega,⟨fun h=>w6 (by omega),fun h=>by have:=w5 h;omega⟩,by omega,?_⟩;rw [show n -v=q by omega]
    exact w2
  ·have hw:(bif eI b.x&&(eI b.y&&mn b.z (bJ l)) then wn b.x b.y b.z l 0 0 else 1000)=1000:=by
    cases hx:eI b.x with
    |false=>rfl
    |true=>
     cases hy:eI b.y with
     |false=>rfl
     |true=>
      cases hz:mn b.z (bJ l) with
      |false=>rfl
      |true=>exact absurd ⟨pM hx,pM hy,DE hz⟩ lF
   rw [hw];refine⟨by omega,by omega,hvb.1,by omega,.inl ⟨rfl,?_⟩⟩;by_cases o6:mY b
   ·refine .inr ?_;obtain⟨hr,h1,h2,h3⟩:=Oq o6;have hA:=tD hr
    have jv:bJ l<b.z.b:=by
     rcases Int.lt_or_le (bJ l) b.z.b with q|q
     ·exact q
     ·exact absurd ⟨hr.x,hr.y,h1,h2,q⟩ lF
    have hL:=(NG h2 l 0 fun e he=>(h.sec e he).2.1).1;have hV:=NF b.x b.y b.z l 0;have hW:=NI hr h2 l 0 0 (by omega) fun e he=>(h.sec e he).2.1
    have cn:lz b.z l 0<b.z.b -b.z.a:=by
     rw [hL];unfold cm;dsimp only;omega
    have:=Int.mul_lt_mul_of_pos_left cn (show 0<dV b.x b.y by omega)
    unfold jD;rw [if_pos o6];have:=hW.2.2.1;omega
   ·unfold jD;rw [if_neg o6];exact .inl rfl
 ·have hwn:tw l b=some 1000:=by
   unfold tw;rw [uV,hc,aT,kc h0];rfl
  have:=arz b;exact⟨0,1000,arA hc h0 b,hwn,by omega,by omega,by omega,by omega,.inl ⟨rfl,by omega⟩⟩
def AT (b:ma) (e:Df):Bool:=!(oS e.b.x (fA b.a8.x))||(!(oS e.b.y (fA b.a8.y))||!(oS e.b.z (fA b.a8.z)))
theorem arE {b:ma} (hl:b.dA.length≤9223372036854775806):bR (fun q=>tx b q) 0=some (bif b.dA.any (AT b) then .inl 9 else .inr ()):=by
 have:=Dy (step:=fun q:Int=>tx b q) b.dA (AT b) (fun(u:Unit) _=>u) () (fun _ j=>(j:Int)) (.inl 9) (fun _=>.inr ()) (fun _ _=>True) trivial (fun _ _ _ _ _=>trivial) (fun s j hj _ hb=>by
  unfold AT at hb;rw [Bool.or_eq_false_iff,Bool.or_eq_false_iff] at hb;unfold tx;rw [eb hj,cond_true,dw hj,aT,hb.1,hb.2.1,hb.2.2,cC (by omega)];rfl) (fun s j hj _ hb=>by
  unfold AT at hb;unfold tx;rw [eb hj,cond_true,dw hj,aT];cases h1:!(oS b.dA[j].b.x (fA b.a8.x)) with
  |true=>rfl
  |false=>
   cases h2:!(oS b.dA[j].b.y (fA b.a8.y)) with
   |true=>rfl
   |false=>
    rw [h1,h2,Bool.false_or,Bool.false_or] at hb;rw [hb];rfl) (fun _ _=>by
  unfold tx;rw [eU];rfl)
 exact this
theorem arF (n:Int):AA n=!(decide (n<0)||decide (20000<n)):=by
 unfold AA;by_cases h1:n<0
 ·rw [decide_eq_true h1,decide_eq_false (p:=0≤n) (by omega)];rfl
 ·rw [decide_eq_false h1,decide_eq_true (p:=0≤n) (by omega)];by_cases h2:20000<n
  ·rw [decide_eq_true h2,decide_eq_false (by omega)];rfl
  ·rw [decide_eq_false h2,decide_eq_true (by omega)];rfl
theorem arG {p:aQ} (h:pA p=some 0):(iC p).2≤600:=by
 rw [G_] at h;by_cases h9:600<(iC p).2
 ·rw [decide_eq_true h9] at h;revert h;cases decide (p.dB<5) with
  |true=>intro h;cases h
  |false=>
  cases decide (300<p.dB) with
  |true=>intro h;cases h
  |false=>
  cases decide (p.dR<p.dB) with
  |true=>intro h;cases h
  |false=>
  cases decide (600<p.dR) with
  |true=>intro h;cases h
  |false=>
  cases decide (p.dM<0) with
  |true=>intro h;cases h
  |false=>
  cases decide (200<p.dM) with
  |true=>intro h;cases h
  |false=>
  cases decide (p.dH<0) with
  |true=>intro h;cases h
  |false=>cases decide (1000<p.dH)<;>(intro h;cases h)
 ·omega
theorem arH {p:aQ} (h:u0 [p]=some 0):(iC p).2≤600:=by
 obtain⟨b,n1,n2⟩:=NJ p.Name;obtain⟨c,hc,_⟩:=NK p;have s2:=Y0 p;rw [n2,hc,aT,aT] at s2;unfold u0 at h;rw [show decide ((16:Int)<(([p].length:Nat):Int))=false from rfl,cond_false] at h
 cases b with
 |false=>
  rw [gQ (step:=fun q=>nL [p] q) s2] at h;cases h
 |true=>
  by_cases h0:c=0
  ·subst h0;exact arG hc
  ·rw [kc h0] at s2;rw [gQ (step:=fun q=>nL [p] q) s2] at h;have h:some c=some (0:Int):=h;cases h;exact absurd rfl h0
theorem arI {p:aQ} (h:uZ p):(iC p).1≤600:=by
 have ht:=h.t;have ha:=h.a;have hw:=h.w;have h1:=Int.mul_le_mul (a:=p.dB) (c:=300) (b:=1000+p.dM) (d:=1200) (by omega) (by omega) (by omega) (by omega);have h2:0≤p.dB*(1000+p.dM):=Int.mul_nonneg (by omega) (by omega);unfold iC;cases Nr p with
 |false=>show(0:Int)≤600;omega
 |true=>
  rw [Bool.not_true,cond_false,decide_eq_false (by omega),cond_false,decide_eq_false (by omega),cond_false];dsimp only;rw [b_ (n:=1000+p.dM) (by omega) (by omega),b_ (n:=p.dB*_) (by omega) (by omega),b_ (n:=_+999) (by omega) (by omega),Int.tdiv_eq_ediv_of_nonneg (by omega)];generalize p.dB*(1000+p.dM)=t at*
  rw [b_ (by omega) (by omega)];omega
theorem arJ {l:List Df} {b:Bx} (hc:ly l=0) (hb:okB b) {d:Df} (h:d∈l.filterMap (qK b)):(0≤d.b.x.a∧d.b.x.a≤b.x.b -b.x.a∧0≤d.b.x.b∧d.b.x.b≤b.x.b -b.x.a)∧(0≤d.b.y.a∧d.b.y.a≤b.y.b -b.y.a∧0≤d.b.y.b∧d.b.y.b≤b.y.b -b.y.a)∧(0≤d.b.z.a∧d.b.z.a≤b.z.b -b.z.a∧0≤d.b.z.b∧d.b.z.b≤b.z.b -b.z.a):=by
 obtain⟨e,_,⟨t1,t2,t3⟩,rfl⟩:=Y9 hc hb h;unfold tE at t1 t2 t3;unfold AM xI;dsimp only;omega
theorem Ot {s:Sp} {n:Int} (h:0≤s.a∧s.a≤n∧0≤s.b∧s.b≤n):oS s n=true:=by
 unfold oS;rw [decide_eq_true h.1,decide_eq_true h.2.1,decide_eq_true h.2.2.1,decide_eq_true h.2.2.2];rfl
theorem arK {m:MdB} {x:LgB} {c:List aQ} (hl:lW x.gb) (hd:x.dA.length≤9223372036854775807) (k1:rR m.Id 66=some true) (k2:rR m.Log 76=some true) (k3:pz m.kO.Name=some true) (k4:0≤m.kO.mb∧m.kO.mb≤20000)
  (hc:nD c=some 0) {j:Nat} (hj:j<c.length) (hp:m.jf=(j:Int)) (hA:(mq x.gb x.dA c[j]&&acc x.gb x.dA c[j] m.a8)=true) {v w:Int} (hv:nH x.gb m.a8=some v) (hw:tw x.gb m.a8=some w) (h0:0≤v) (h1:v≤jD m.a8∨jD m.a8=0) (h2:0≤w∧w≤1000):
  AB ⟨m.Id,m.Log,m.kO.Name,m.jf,m.a8,v,qL x.dA m.a8,w,⟨m.kO.mb,m.kO.mb,0⟩,false,0⟩ c=some 0∧w≤c[j].dH:=by
 rw [Bool.and_eq_true] at hA;obtain⟨hV,hA⟩:=hA;have V:=Zf hl hV;unfold mq at hV;simp only [Bool.and_eq_true,beq_iff_eq] at hV
 have DV:ly x.dA=0:=by
  have:=hV.2.1;rw [apX hd] at this;exact Option.some.inj this
 have hg2:=arH hV.2.2;have Ou:=arI V.prod;unfold acc at hA;simp only [Bool.and_eq_true,decide_eq_true_eq] at hA;obtain⟨ax,ay,az,apr,agk,_,awn⟩:=hA;have hx:=pM ax;have hy:=pM ay;have hz:=DE az;have uY:=V.oX.ml;have o6:mY m.a8:=⟨⟨hx.1,hx.2.2,hx.2.1⟩,⟨hy.1,hy.2.2,hy.2.1⟩,hz.1,by omega,hz.2.1⟩;have hpb:=DZ o6;have hvn:jD m.a8=dV m.a8.x m.a8.y*(m.a8.z.b -m.a8.z.a):=by unfold jD;rw [if_pos o6]
 have ex:fA m.a8.x=m.a8.x.b -m.a8.x.a:=b_ (by omega) (by omega);have ey:fA m.a8.y=m.a8.y.b -m.a8.y.a:=b_ (by omega) (by omega);have ez:fA m.a8.z=m.a8.z.b -m.a8.z.a:=b_ (by omega) (by omega)
 have hgk:((fA m.a8.x==(jn c[j]).1&&(fA m.a8.y==(jn c[j]).2&&true))||(fA m.a8.x==(jn c[j]).2&&(fA m.a8.y==(jn c[j]).1&&true)))=true:=by
  unfold nN at agk;rw [GZ];simp only [Bool.and_true];exact agk
 have kg:DL m.a8:=by
  refine⟨hx,hy,⟨hz.1,hz.2.1,by omega⟩,?_⟩;have q:=hgk;rw [GZ,ex,ey] at q;simp only [Bool.or_eq_true,Bool.and_eq_true,Bool.and_true,beq_iff_eq] at q;omega
 have aal:qL x.dA m.a8=x.dA.filterMap (qK m.a8):=by
  unfold qL;rw [if_pos ⟨DV,kg.ok⟩]
 have iM:ly (qL x.dA m.a8)=0:=by rw [aal];exact ap8 DV kg
 have hcn:=Y5 iM;obtain⟨pr,p1,_,p2⟩:=NT (p:=c[j]) (by have:=V.prod.l;omega) (fA m.a8.z)
 have arN:(c[j].bQ.any fun e=>e==fA m.a8.z)=true:=by
  have:pr.2=true:=by
   have q:(mo c[j] (fA m.a8.z)).2=true:=apr;unfold mo at q;rw [p1] at q;exact q
  obtain⟨i,i1,_,i3,_⟩:=p2 this;rw [List.any_eq_true];exact⟨_,List.getElem_mem i1,by rw [i3];simp⟩
 have lF:(qL x.dA m.a8).any (AT ⟨m.Id,m.Log,m.kO.Name,m.jf,m.a8,v,qL x.dA m.a8,w,⟨m.kO.mb,m.kO.mb,0⟩,false,0⟩)=false:=by
  rw [List.any_eq_false];intro d rW;rw [aal] at rW;have q:=arJ DV kg.ok rW;unfold AT;dsimp only;rw [ex,ey,ez,Ot q.1,Ot q.2.1,Ot q.2.2];simp
 have hww:w=wn m.a8.x m.a8.y m.a8.z x.gb 0 0:=by
  have q:=YX V.oX V.lc m.a8;rw [hw,ax,ay,az] at q;exact Option.some.inj q
 refine⟨?_,by omega⟩;unfold AB;dsimp only;rw [hc,k1,k2,k3];simp only [aT,Bool.not_true,cond_false];rw [show((0:Int)!=0)=false from rfl,cond_false,hp,decide_eq_false (by omega),cond_false,decide_eq_false (by omega),cond_false,Yy,aT,decide_eq_true o6,Bool.not_true,cond_false,dw hj,aT,jt]
 have hs:(bif(!((fA m.a8.x)==(jn c[j]).1&&((fA m.a8.y)==(jn c[j]).2&&true))) then(bif(!((fA m.a8.x)==(jn c[j]).2&&((fA m.a8.y)==(jn c[j]).1&&true))) then some (κ 19) else some (ι ())) else some (ι ()):Option (Int⊕Unit))=some (.inr ()):=by
  revert hgk;cases(fA m.a8.x==(jn c[j]).1&&(fA m.a8.y==(jn c[j]).2&&true)) with
  |true=>intro _;rfl
  |false=>
   intro q;rw [Bool.false_or] at q;rw [q];rfl
 rw [hs,aT,Sum.elim_inr,apR (by have:=V.prod.l;omega),aT,arN,Bool.not_true,cond_false,DK (by omega),aT,iM,show((0:Int)!=0)=false from rfl,cond_false]
 have mi:=arE (b:=⟨m.Id,m.Log,m.kO.Name,(j:Int),m.a8,v,qL x.dA m.a8,w,⟨m.kO.mb,m.kO.mb,0⟩,false,0⟩) (by show(qL x.dA m.a8).length≤_;omega)
 rw [hp] at lF;dsimp only at mi;rw [lF] at mi;rw [mi,cond_false,aT,Sum.elim_inr,decide_eq_false (p:=v<0) (by omega),cond_false,YA,aT,aah,decide_eq_false (p:=jD m.a8<v) (by omega),cond_false,decide_eq_false (p:=w<0) (by omega),cond_false,decide_eq_false (p:=1000<w) (by omega),cond_false,arF,decide_eq_false (p:=m.kO.mb<0) (by omega),decide_eq_false (p:=20000<m.kO.mb) (by omega)];rfl
theorem awV:pI=some true:=amZ 400 true (by kernel_rfl)
def xP:ByteArray:=⟨#[66,48,48,48,48,48,49,77]⟩
def xQ:ByteArray:=⟨#[76,48,48,48,48,48,49,87]⟩
def tH:q_:=⟨⟨#[112,105,110,101]⟩,8000,0,0,0,0,0,0,0,0,0,0,0⟩
theorem arP:rR xP 66=some true:=Yr 100 xP 66 true (by kernel_rfl)
theorem arQ:rR xQ 76=some true:=Yr 100 xQ 76 true (by kernel_rfl)
theorem arR:pz tH.Name=some true:=KQ 100 tH.Name true (by kernel_rfl)
theorem arS {l:List aG} {d:List Df} {c:List aQ} (hl:lW l) (hS:kI l) (iM:jj l=some 0) (hd:d.length≤1000) (hc:nD c=some 0) {pr:Int} {b:Bx} {j:Nat} (hj:j<c.length) (hp:pr=(j:Int)) (hA:(mq l d c[j]&&acc l d c[j] b)=true):
  ∃m,As xP xQ tH l d pr b=some m∧m.q9=jT l b∧nH l b=some (jT l b)∧(∃v,xv m=some v∧m.q9≤v)∧aK c pr=some c[j]∧m.dH≤c[j].dH∧AB m c=some 0:=by
 obtain⟨v,w,v1,v2,v3,v4,v5,_,v7⟩:=arB hl b;have hA':=hA;rw [Bool.and_eq_true] at hA';have vb:=Hj hA'.2;have uY:=hS.ml;have o6:mY b:=⟨⟨vb.1.1,vb.1.2.2,vb.1.2.1⟩,⟨vb.2.1.1,vb.2.1.2.2,vb.2.1.2.1⟩,vb.2.2.1,by omega,vb.2.2.2.1⟩
 have hvn:1≤jD b:=by
  unfold jD;rw [if_pos o6];exact(DZ o6).1
 have hv:v=jT l b:=by
  have:=NH hS iM b;rw [v1] at this;exact Option.some.inj this
 have aan:v≤jD b:=by rcases v7 with⟨_,z|z⟩|⟨_,_,_,z,_⟩<;>omega
 obtain⟨r1,r2⟩:=arK (m:=⟨xP,xQ,tH,pr,b⟩) (x:=⟨l,d⟩) (c:=c) hl (by dsimp only;omega) arP arQ arR ⟨show(0:Int)≤8000 by decide,show(8000:Int)≤20000 by decide⟩ hc hj hp hA v1 v2 v5 (.inl aan) ⟨v3,v4⟩
 refine⟨⟨xP,xQ,tH.Name,pr,b,v,qL d b,w,⟨tH.mb,tH.mb,0⟩,false,0⟩,?_,hv,hv▸v1,⟨_,YA _,?_⟩,?_,r2,r1⟩
 ·unfold As;rw [v1,ap3 _ (by omega),v2];rfl
 ·rw [aah];exact aan
 ·rw [hp];exact dw hj
theorem arT (t:l_) (p:dq) (jC:List Int):GQ t p jC=some true:=by
 obtain⟨sb,s1,s2⟩:=aq8 t;unfold GQ;rw [s1,aT,awV];simp only [aT];cases sb with
 |false=>rfl
 |true=>
 rw [Bool.not_true,cond_false];by_cases hn:60<p.aV.length
 ·rw [decide_eq_true (by omega)];rfl
 rw [decide_eq_false (by omega),cond_false];have Ov:=s2 rfl;obtain⟨pv,q1,q2,q3,q4⟩:=arw t.Scan ((jC.length:Nat):Int) t.yJ t.yK ⟨Ov.rings,Ov.AS,Ov.reads⟩;rw [q1,aT];by_cases yk:pv.2.2=0
 ·rw [yk,show((0:Int)!=0)=false from rfl,cond_false]
  obtain⟨o,n1,n2⟩:=aq4 (p:=p) (c:=t.eu) t.ff t.jz q2 (d:=pv.2.1) (by omega) (by omega);rw [n1,aT];rcases n2 with⟨e,rfl,he⟩|⟨aU,rfl,hM⟩
  ·rw [Sum.elim_inl,kc he,cond_true,show(e==0)=false by simp [he]]
   rfl
  ·obtain⟨m1,m2,m3,mk,mt,m4,⟨hS,iM,hpc⟩,m6,m7⟩:=hM;rw [Sum.elim_inr,m7,show((0:Int)!=0)=false from rfl,cond_false]
   have L:dg (bR (fun q:Int×List bq×List Int×List aH=>xw t jC pv aU q.1 q.2.1 q.2.2.1 q.2.2.2) (0,aU.2.2.2.2.2.2.2.2.2.2.2.1,aU.2.2.2.2.2.2.2.2.2.2.2.2.1,aU.2.2.2.2.2.2.2.2.2.2.2.2.2.1)) (fun z=>z=.inr ()):=by
    refine gE 30 (fun q:Int×List bq×List Int×List aH=>q.1) (fun q=>lA pv.1 pv.2.1 t.eu (fV pv.1) q.2.1 q.2.2.1 q.2.2.2) (fun x j hI hx hj=>?_) (fun x hI hx=>?_) m6 rfl (Nat.zero_le _)
    ·obtain⟨i,ns,rs,sw⟩:=x;dsimp only at hI hx;subst hx;unfold xw;dsimp only;by_cases fk:j<jC.length
     ·rw [eb fk,cond_true,decide_eq_true (show(j:Int)<30 by omega),cond_true,dw fk]
      simp only [aT];rw [m1,m2,m3,m4]
      have u9:dg (bif(decide (1000≤jC[j])) then(cH (tu pv.1 pv.2.1 t.eu aU.2.2.2.1 aU.2.2.2.2.1 aU.2.2.2.2.2.1 aU.2.2.2.2.2.2.1 aU.2.2.2.2.2.2.2.1 aU.2.2.2.2.2.2.2.2.1 aU.2.2.2.2.2.2.2.2.2.1 (bJ pv.1) ns rs sw) (fun av=>some (av.2.1,av.2.2.1,av.2.2.2))) else(β (tc pv.1 pv.2.1 t.eu aU.2.2.2.1 aU.2.2.2.2.1 aU.2.2.2.2.2.1 aU.2.2.2.2.2.2.1 aU.2.2.2.2.2.2.2.1 aU.2.2.2.2.2.2.2.2.1 aU.2.2.2.2.2.2.2.2.2.1 (bJ pv.1) ns rs sw jC[j]) (fun cv=>some (cv.2.1,cv.2.2.1,cv.2.2.2)))) (fun w:List bq×List Int×List aH=>lA pv.1 pv.2.1 t.eu (fV pv.1) w.1 w.2.1 w.2.2):=by
       refine cr (fun _=>u_ (bF (aqy hI).2)) (fun _=>?_);obtain⟨r,r1,_,r3⟩:=aqx q2 (kf:=aU.2.2.2.1) (tr:=aU.2.2.2.2.1) (pt:=aU.2.2.2.2.2.1) (st:=aU.2.2.2.2.2.2.1) (ch:=aU.2.2.2.2.2.2.2.1) (du:=aU.2.2.2.2.2.2.2.2.1) (fi:=aU.2.2.2.2.2.2.2.2.2.1) (lg:=bJ pv.1) mk hI jC[j];exact⟨_,by rw [r1,aT],r3⟩
      refine bb (Q:=fun z=>∃w:List bq×List Int×List aH,z=.inr w∧lA pv.1 pv.2.1 t.eu (fV pv.1) w.1 w.2.1 w.2.2) (bb u9 (fun w hw=>?_)) ?_
      ·obtain⟨y,n,y1,y2,y3,y4,y5,y6,y7,y8,y9⟩:=aqB hS iM (kf:=aU.2.2.2.1) (tr:=aU.2.2.2.2.1) (pt:=aU.2.2.2.2.2.1) (st:=aU.2.2.2.2.2.2.1) (ch:=aU.2.2.2.2.2.2.2.1) (du:=aU.2.2.2.2.2.2.2.2.1) (fi:=aU.2.2.2.2.2.2.2.2.2.1) ⟨mt.1,by omega⟩ hw;have Ft:=hw.len;have yR:=ZJ w.1;rw [y1,aT,ZF Ft,aT]
       have B:bR (fun q:Int×Int=>uU t pv (ic w.1) q.1 q.2) (0,0)=some (.inr y.dY):=by
        have:=kZ (step:=fun q:Int×Int=>uU t pv (ic w.1) q.1 q.2) (fun j=>((((ic w.1).take j).map fun b=>jT pv.1 b.a8).sum,(j:Int))) (ic w.1).length (y:=.inr y.dY) (fun j hj=>by
         obtain⟨i,hi,hp,hA⟩:=N' hw.nodes (List.getElem_mem hj);obtain⟨m,b1,b2,b3,⟨bv,b4,b5⟩,b6,b7,b8⟩:=arS q2 hS iM (by omega) hpc hi hp hA;have t1:=pO (f:=fun b:eH=>jT pv.1 b.a8) (fun _=>nO ..) ((ic w.1).take j);have t2:=N9 (f:=fun b:eH=>jT pv.1 b.a8) (fun _=>nO ..) (ic w.1) (j+1);have t3:=N_ (f:=fun b:eH=>jT pv.1 b.a8) hj;have t4:0≤jT pv.1 (ic w.1)[j].a8:=nO ..;unfold uU;dsimp only;rw [eb hj,cond_true,dw hj];simp only [aT];change As xP xQ tH pv.1 pv.2.1 (ic w.1)[j].jf (ic w.1)[j].a8=some m at b1;rw [show(⟨#[66,48,48,48,48,48,49,77]⟩:ByteArray)=xP from rfl,show(⟨#[76,48,48,48,48,48,49,87]⟩:ByteArray)=xQ from rfl,show(⟨(⟨#[112,105,110,101]⟩:ByteArray),8000,0,0,0,0,0,0,0,0,0,0,0⟩:q_)=tH from rfl,b1,aT,b3,aT,b2,show(jT pv.1 (ic w.1)[j].a8 !=jT pv.1 (ic w.1)[j].a8)=false by simp,cond_false,b4,aT,decide_eq_false (by omega),cond_false,b6,aT,decide_eq_false (by omega),cond_false,b8,aT,show((0:Int)!=0)=false from rfl,cond_false,cC (by omega),b_ (n:=_+_) (by omega) (by omega),t3]) (by
         unfold uU;dsimp only;rw [eU,List.take_length,y3];rfl)
        exact this
       rw [B,aT,Sum.elim_inr,Zq hS iM,aT,y2,show(fV pv.1!=fV pv.1)=false by simp,cond_false,show(y.dY !=y.dY)=false by simp,cond_false,decide_eq_false (show¬y.gz<0 by omega),cond_false,decide_eq_false (show¬y.cU<0 by omega),cond_false,decide_eq_false (by omega),cond_false,b_ (n:=y.dY+y.gz) (by omega) (by omega),b_ (n:=y.dY+y.gz+y.cU) (by omega) (by omega),b_ (n:=y.dY+y.gz+y.cU+n) (by omega) (by omega),←y7,y2,show(fV pv.1!=fV pv.1)=false by simp,cond_false]
       exact bF ⟨_,rfl,hw⟩
      ·rintro z ⟨w,rfl,hw⟩;exact bF (.inl ⟨_,rfl,hw,cC (by omega)⟩)
     ·rw [decide_eq_false (by omega)];exact bF (.inr ⟨_,rfl,rfl⟩)
    ·obtain⟨i,ns,rs,sw⟩:=x;dsimp only at hx;unfold xw;dsimp only;rw [decide_eq_false (show¬i<30 by omega)]
     exact cr (fun _=>bF ⟨_,rfl,rfl⟩) (fun _=>bF ⟨_,rfl,rfl⟩)
   obtain⟨z,z1,rfl⟩:=L;rw [z1,aT];rfl
 ·rw [kc yk,cond_true,q4 yk];rfl
end Go.Proofs.YtccnpbnokndeeaaGreatDoor
namespace Go.Ab
open Go.RowKit Go.WideShapes Go.ChangeShapes
section
variable{H:Type} {enc:TypeId×Value→H} {P:Program} {w:World}
theorem aao {P:Program} {w:World} {base:Nat} {spare:Nat→Bool} {held:Bool} {fuel:Nat} {t:TypeId} {cs:List Value} {x:DataW H×List MemPlace} {a b:Int}
  (ht:(∃e,P.underlying t=some (.array 2 e)∧P.underlying e=some (.int .i64)∧P.cellsOf e=1)∨(∃f g:Field,P.underlying t=some (.struct #[f,g])∧P.underlying f.type=some (.int .i64)∧P.underlying g.type=some (.int .i64)∧f.offset=0∧g.offset=1∧P.cellsOf f.type=1∧P.cellsOf g.type=1))
  (hc:P.cellsOf t=2) (h:DataW.trod enc P w base spare held fuel t cs=some x) (hx:x.1=.agg [.lit (.int .i64 a),.lit (.int .i64 b)]):cs=[.int .i64 a,.int .i64 b]:=by
 have fin:∀(xs:List (DataW H×List MemPlace)) (m:Nat) (e1 e2:TypeId),P.underlying e1=some (.int .i64)→P.underlying e2=some (.int .i64)→xs.map (·.1)=[.lit (.int .i64 a),.lit (.int .i64 b)]→cs.length=2→
   DataW.trod enc P w base spare held m e1 ((cs.drop 0).take 1)=xs[0]?→DataW.trod enc P w base spare held m e2 ((cs.drop 1).take 1)=xs[1]?→cs=[.int .i64 a,.int .i64 b]:=by
  intro xs m e1 e2 u1 u2 hm hl h0 h1
  match xs,(show xs.length=2 by simpa using congrArg List.length hm),hm with
  |[x0,x1],_,hm=>
   simp only [List.map_cons,List.map_nil,List.cons.injEq,and_true] at hm;obtain⟨k0,p0,q0,_⟩:=DataW.trod_int u1 (show DataW.trod enc P w base spare held m e1 _=some x0 from h0)
   obtain⟨k1,p1,q1,_⟩:=DataW.trod_int u2 (show DataW.trod enc P w base spare held m e2 _=some x1 from h1)
   match cs,hl with
   |[c0,c1],_=>
    simp at p0 p1;rw [q0,q1] at hm;simp at hm;rw [p0,p1,hm.1,hm.2]
 rcases ht with⟨e,u,ue,ce⟩|⟨f,g,u,uf,ug,of,og,cf,cg⟩
 ·obtain⟨xs,m,_,ex,hl,_,iL⟩:=DataW.trod_array u h;subst ex;refine fin xs m e e ue ue (DataW.agg.inj hx) (by omega) ?_ ?_
  ·have:=iL 0 (by decide);rwa [ce] at this
  ·have:=iL 1 (by decide);rwa [ce] at this
 ·obtain⟨xs,m,_,ex,hl,_,iL⟩:=DataW.trod_struct u h;subst ex;refine fin xs m f.type g.type uf ug (DataW.agg.inj hx) (by omega) ?_ ?_
  ·have:=iL 0 f rfl;rwa [of,cf] at this
  ·have:=iL 1 g rfl;rwa [og,cg] at this
theorem arV {P:Program} {w:World} {base:Nat} {spare:Nat→Bool} {held:Bool} {fuel:Nat} {t e:TypeId} {n:Nat} {cs:List Value} {x:DataW H×List MemPlace} {l:List (Int×Int)}
  (hu:P.underlying t=some (.array n e)) (hn:P.cellsOf t=n*2) (hc:P.cellsOf e=2)
  (ht:(∃e',P.underlying e=some (.array 2 e')∧P.underlying e'=some (.int .i64)∧P.cellsOf e'=1)∨(∃f g:Field,P.underlying e=some (.struct #[f,g])∧P.underlying f.type=some (.int .i64)∧P.underlying g.type=some (.int .i64)∧f.offset=0∧g.offset=1∧P.cellsOf f.type=1∧P.cellsOf g.type=1))
  (h:DataW.trod enc P w base spare held fuel t cs=some x) (hx:x.1=.agg (l.map fun p=>.agg [.lit (.int .i64 p.1),.lit (.int .i64 p.2)])):cs=l.flatMap fun p=>[.int .i64 p.1,.int .i64 p.2]:=by
 obtain⟨xs,m,_,ex,hl,hlen,iL⟩:=DataW.trod_array hu h;subst ex;have je:=DataW.agg.inj hx
 have go:∀(l:List (Int×Int)) (xs:List (DataW H×List MemPlace)) (cs:List Value),cs.length=l.length*2→xs.map (·.1)=l.map (fun p=>.agg [.lit (.int .i64 p.1),.lit (.int .i64 p.2)])→
   (∀i<l.length,DataW.trod enc P w base spare held m e ((cs.drop (i*2)).take 2)=xs[i]?)→cs=l.flatMap fun p=>[.int .i64 p.1,.int .i64 p.2]:=by
  intro l
  induction l with
  |nil=>intro xs cs h1 _ _;exact List.eq_nil_of_length_eq_zero (by simpa using h1)
  |cons p l ih=>
   intro xs cs h1 h2 h3
   match xs,h2 with
   |x0::xs,h2=>
    simp only [List.map_cons,List.cons.injEq] at h2;have a0:=aao ht hc (show DataW.trod enc P w base spare held m e ((cs.drop (0*2)).take 2)=some x0 from h3 0 (by simp)) h2.1
    have a1:=ih xs (cs.drop 2) (by simp at h1⊢;omega) h2.2 (fun i hi=>by
     have:=h3 (i+1) (by simpa using hi);rw [List.drop_drop,show 2+i*2=(i+1)*2 by omega]
     simpa using this)
    rw [List.flatMap_cons,←a1,←a0];simp
 have Ps:l.length=n:=by
  have:=congrArg List.length je;simpa [hlen] using this.symm
 exact go l xs cs (by omega) je (fun i hi=>by
  have:=iL i (by omega);rwa [hc] at this)
theorem arW {R:Nat→Prop} (h:∀g cs,lk g o8=some cs→R g∧∃(vs:List Value) (arr:Array Value),cs=vs.map .sc∧vs.all flat=true∧(∀k,w.cell? ⟨g,k,none⟩=arr[k]?)∧arr.toList=vs):tI w R:=fun g cs hg=>by
 obtain⟨h1,vs,arr,rfl,h2,h3,rfl⟩:=h g cs hg;refine⟨h1,fun k c hk=>?_⟩;rw [List.getElem?_map] at hk;cases hv:arr.toList[k]?with
 |none=>rw [hv] at hk;cases hk
 |some v=>
  rw [hv] at hk;refine⟨v,List.all_eq_true.1 h2 v (List.mem_of_getElem? hv),(Option.some.inj hk).symm,?_⟩;rw [h3,←Array.getElem?_toList];exact hv
theorem arX {f:Nat} {fn:Func} {spec:ChangeSpec} {tb:TypeId} (Js:∀R:Nat→Prop,(∀g,(lk g o8).isSome=true→R g)→tI w R) (hgs:∀g,(lk g o8).isSome=true→g<w.heap.size) (ss:List Sh) (hl:laidOutB P=true) (kg:fitAll P ss fn.params.toList=true)
  (arZ:fn.params.toList.all (fun t=>P.readableRec t&&decide (t<P.types.size))=true) (EN:spec.vars=[]) (sg:fn.resultTypes=#[tb]) (hb:P.underlying tb=some .bool)
  (ar0:∀ds:List (DataW H),ds.length=fn.params.toList.length→(spec.fn H ds).results=[.lit (.bool true)]∧(spec.fn H ds).args=ds∧(spec.fn H ds).vars=[])
  (hold:∀la,Bp ss la→Holds P f la [] (.sc (.bool true)) [])
  {base:Nat} {args:Array Value} {ds gs:List (DataW H)} {before:List MemPlace} (Bo:∀(j:Nat) t v,fn.params[j]?=some t→args[j]?=some v→Value.okWide P w .any base t v)
  (hW:DataW.Whole enc P fn.params.toList spec.vars false w args.toList ds gs before):
  Calls P f args w fun e w'=>∃v,e=.returned v∧spec.post enc P fn false true false false w args v w':=by
 have hW':=hW;obtain⟨p,q,hA,hV,hbf,hfz,El⟩:=hW;have hV0:=hV;rw [EN] at hV0;obtain⟨rfl,rfl⟩:=trodVars_none hV0;obtain⟨la,g1,g2,g3,g4⟩:=Pv ss _ _ ds p kg (fun j t v h1 h2=>Bo j t v (by simpa using h1) (by simpa using h2)) hA;have cn:∀x∈before,x.block<w.heap.size:=fun x hx=>hW'.lt x hx
 rw [List.append_nil] at hbf;subst hbf
 have FG:=hold la g1 w args Ph.no (fun n=>pX before n∨(lk n o8).isSome=true) (by simpa using g2) (fun i c v h1 h2=>(g4 i c v h1 (by simpa using h2)).more fun n hn=>.inl hn)
  ⟨fun b k h=>by simp [lk] at h,fun b b' k k' h h' h1=>by simp [lk] at h1,fun b k h h1=>by simp [lk] at h1,Js _ (fun g hg=>.inr hg)⟩ (fun b x h=>by simp [Ph.no] at h)
  (fun n hn=>hn.elim (fun⟨x,hx,e⟩=>e▸cn x hx) (hgs n))
 refine FG.mono ?_;rintro e w' ⟨v,φ',R',rfl,hr,-,-,-,-,-,-,rh⟩;cases hr;have aas:Below w.heap.size w w':=rh.below (by rintro i ⟨b,k,h,h1,-⟩;simp [lk] at h1);obtain⟨s1,s2,s3⟩:=ar0 (ds++[]) (by rw [List.append_nil];exact g3);refine⟨_,rfl,acA (pa:=before) (pv:=[]) hW' ?_ ?_ ?_ (by simp) aas ?_⟩
 ·intro b sp hd;rw [s1,sg];exact trodAll_cons_mk (shut_bool hb _) trodAll_mk0
 ·intro sp rU;rw [s2,List.append_nil];exact Pw hl _ _ _ _ arZ hA (fun x hx=>aas.same (cn x hx)) rU
 ·intro sp rU;rw [s3,EN];rfl
 ·exact ok_one sg rfl (okWide_bool_mk hb _)
end
end Go.Ab
end
