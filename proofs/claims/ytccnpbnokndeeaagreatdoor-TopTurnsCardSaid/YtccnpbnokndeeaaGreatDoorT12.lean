/- Texts for the law: P3, P4, P5, P6, P7, P8, P9, P10. -/
import Derived.Test.YtccnpbnokndeeaaGreatDoorT11
noncomputable section
open Option renaming bind→β
open Sum renaming inr→ι,inl→κ
namespace Go.Proofs.YtccnpbnokndeeaaGreatDoor
open Go Go.Ab
set_option maxRecDepth 20000
set_option maxHeartbeats 1000000
def qT (n:Int) (low:Int) (high:Int):Bool:=
 (bif(decide (low≤n)) then(decide (n≤high)) else false)
theorem anj (n low high:Int):qT n low high=(decide (low≤n)&&decide (n≤high)):=by
 unfold qT;cases decide (low≤n)<;>rfl
def ov (a b:Sp):Prop:=max a.a b.a<min a.b b.b
instance(a b:Sp):Decidable (ov a b):=by unfold ov;infer_instance
theorem ank (a b:Sp):decide ((o7 a b).b≤(o7 a b).a)=!decide (ov a b):=by
 unfold o7 ov;by_cases h:min a.b b.b≤max a.a b.a
 ·rw [decide_eq_true h,cond_true,decide_eq_false (p:=max a.a b.a<min a.b b.b) (by omega)];rfl
 ·rw [decide_eq_false h,cond_false,decide_eq_true (p:=max a.a b.a<min a.b b.b) (by omega)];exact decide_eq_false h
def iO (b:Bx) (d:Df):Bool:=decide (ov d.b.x b.x)&&(decide (ov d.b.y b.y)&&decide (ov d.b.z b.z))
theorem A2 (d:Df) (b:Bx):A0 d b=iO b d:=by
 unfold A0 Mw uQ iO;simp only [fe,ank];cases decide (ov d.b.x b.x)<;>cases decide (ov d.b.y b.y)<;>cases decide (ov d.b.z b.z)<;>rfl
def n9 (b:Bx) (d:Df):Bool:=d.k==3&&iO b d
def vf (b:Bx) (ba:Int) (n:Int) (d:Df):Int:=if iO b d=true then n -ba else n
theorem W9 {p:bh} (hl:p.bG.length≤1000) (n:Int):∃pr:Int×Bool,uU p n=some pr∧(pr.2=false→pr.1=0)∧(pr.2=true→∃(j:Nat) (h1:j<p.bG.length) (h2:j<p.dB.length),p.bG[j]=n∧p.dB[j]=pr.1):=by
 unfold uU
 obtain⟨y,hy,hG⟩:=p_ (step:=fun q:Int=>AZ p n q) (fun q=>∃k:Nat,k≤p.bG.length∧q=(k:Int)) (fun q=>p.bG.length -q.toNat) (fun y=>y=.inr ()∨y=.inl (0,false)∨∃(j:Nat) (h1:j<p.bG.length) (h2:j<p.dB.length),p.bG[j]=n∧y=.inl (p.dB[j],true)) (by
  rintro q ⟨k,hk,rfl⟩;unfold AZ;rcases Nat.lt_or_ge k p.bG.length with bB|tw
  ·rw [fm bB,cond_true,cQ bB,aN,bK (by omega)];by_cases h1:p.bG[k]=n
   ·rw [show(p.bG[k]==n)=true by simp [h1],cond_true]
    by_cases h2:p.dB.length≤k
    ·rw [decide_eq_true (by omega)];exact .inr ⟨_,rfl,.inr (.inl rfl)⟩
    ·rw [decide_eq_false (by omega),cond_false,cQ (by omega),aN];exact .inr ⟨_,rfl,.inr (.inr ⟨k,bB,by omega,h1,rfl⟩)⟩
   ·rw [show(p.bG[k]==n)=false by simp [h1]]
    exact .inl ⟨_,rfl,⟨k+1,by omega,rfl⟩,by omega⟩
  ·have:k=p.bG.length:=by omega
   subst this;rw [fX];exact .inr ⟨_,rfl,.inl rfl⟩) 0 ⟨0,by omega,rfl⟩
 rw [hy,aN];rcases hG with rfl|rfl|⟨j,h1,h2,h3,rfl⟩
 ·exact⟨(0,false),rfl,fun _=>rfl,fun h=>by simp at h⟩
 ·exact⟨(0,false),rfl,fun _=>rfl,fun h=>by simp at h⟩
 ·exact⟨(p.dB[j],true),rfl,fun h=>by simp at h,fun _=>⟨j,h1,h2,h3,rfl⟩⟩
def jq (d:List Df) (b:Bx) (ba pr:Int):Int:=d.foldl (vf b ba) pr
def Es (d:List Df) (b:Bx) (ba:Int) (n1:Int) (i:Int):Option ((Int×Int)⊕Int):=
 (bif(decide (i<((d.length:Nat):Int))) then(β (aC d i) (fun e=>(bif(A0 e b) then some (κ ((U (n1 -ba)),U (i+1))) else some (κ (n1,U (i+1)))))) else some (ι n1))
theorem anl {d:List Df} (hd:d.length≤1000) (b:Bx) {ba pr:Int} (hf:0≤ba∧ba≤1000000) (hp:0≤pr∧pr≤1000000):bb (fun q:Int×Int=>Es d b ba q.1 q.2) (pr,0)=some (jq d b ba pr):=by
 have:=Me (step:=fun q:Int×Int=>Es d b ba q.1 q.2) d (vf b ba) pr (fun n j=>(n,(j:Int))) (fun n=>n) (fun j n=>-1000000*(j:Int)≤n∧n≤1000000) (by omega) (fun j n hj hn=>by
  unfold vf;split<;>omega) (fun n j hj hn=>by
  unfold Es vf;dsimp only;rw [fm hj,cond_true,cQ hj,aN,A2,bK (by omega)];cases iO b d[j] with
  |true=>
   rw [cond_true,bu (by omega) (by omega),if_pos rfl]
  |false=>
   rw [cond_false,if_neg (by simp)]) (fun n _=>by
  unfold Es;dsimp only;rw [fX];rfl)
 exact this
def A3 (d:List Df) (b:Bx) (i:Int):Option (Int⊕(Bool⊕Unit)):=
 (bif(decide (i<((d.length:Nat):Int))) then(β (aC d i) (fun e=>(bif(e.k==3) then(β (aC d i) (fun e1=>(bif(A0 e1 b) then some (ι (κ false)) else some (κ (U (i+1)))))) else some (κ (U (i+1)))))) else some (ι (ι ())))
theorem anm {d:List Df} (hd:d.length≤1000) (b:Bx):bb (fun q:Int=>A3 d b q) 0=some (bif d.any (n9 b) then .inl false else .inr ()):=by
 have:=Mf (step:=fun q:Int=>A3 d b q) d (n9 b) (fun(u:Unit) _=>u) () (fun _ j=>(j:Int)) (.inl false) (fun _=>.inr ()) (fun _ _=>True) trivial (fun _ _ _ _ _=>trivial) (fun s j hj _ kc=>by
  unfold n9 at kc;unfold A3;rw [fm hj,cond_true,cQ hj,aN,aN,A2,bK (by omega)];cases h1:(d[j].k==3) with
  |false=>rfl
  |true=>
   rw [h1,Bool.true_and] at kc;rw [kc];rfl) (fun s j hj _ kc=>by
  unfold n9 at kc;rw [Bool.and_eq_true] at kc;unfold A3;rw [fm hj,cond_true,cQ hj,aN,aN,A2,kc.1,kc.2];rfl) (fun _ _=>by
  unfold A3;rw [fX];rfl)
 exact this
def k9 (p:bh) (n:Int):Int×Bool:=(uU p n).getD (0,false)
theorem MB {p:bh} (hl:p.bG.length≤1000) (n:Int):uU p n=some (k9 p n):=by
 obtain⟨pr,h,_⟩:=W9 hl n;unfold k9;rw [h];rfl
theorem W_ {p:bh} (hp:rR p) (n:Int):0≤(k9 p n).1∧(k9 p n).1≤1000000:=by
 obtain⟨pr,h,h1,h2⟩:=W9 (p:=p) (by have:=hp.l;omega) n;unfold k9;rw [h];show 0≤pr.1∧pr.1≤1000000
 cases hb:pr.2 with
 |false=>
  rw [h1 hb];omega
 |true=>
  obtain⟨j,_,h4,_,h5⟩:=h2 hb;rw [←h5];exact hp.c j h4
def nu (p:bh) (X Y:Sp):Bool:=((U (X.b -X.a))==(jg p).1&&(U (Y.b -Y.a))==(jg p).2)||((U (X.b -X.a))==(jg p).2&&(U (Y.b -Y.a))==(jg p).1)
def acc (l:List aV) (d:List Df) (p:bh) (b:Bx):Bool:=fp b.x&&(fp b.y&&(rP b.z (bA l)&&((k9 p (U (b.z.b -b.z.a))).2&&(nu p b.x b.y&&(!d.any (n9 b)&&decide (wn b.x b.y b.z l 0 0≤p.gP))))))
def val (d:List Df) (p:bh) (b:Bx) (ba:Int):Int:=max 0 (jq d b ba (k9 p (U (b.z.b -b.z.a))).1)
structure Valid (l:List aV) (d:List Df) (p:bh):Prop where
 fD:lX l
 lc:jL l=some 0
 dl:d.length≤64
 prod:rR p
def MC (l:List aV) (d:List Df) (p:bh) (b:Bx):Option Bool:=
 (β (Mr l b) (fun wv=>(bif(!wv) then some false else(cU (jg p) (fun gv=>(β (uU p (U (b.z.b -b.z.a))) (fun pv=>(β ((bif(!pv.2) then some (κ false) else(bif((U (b.x.b -b.x.a))==gv.1) then(bif(!((U (b.y.b -b.y.a))==gv.2)) then(bif((U (b.x.b -b.x.a))==gv.2) then(bif(!((U (b.y.b -b.y.a))==gv.1)) then some (κ false) else some (ι ())) else some (κ false)) else some (ι ())) else(bif((U (b.x.b -b.x.a))==gv.2) then(bif(!((U (b.y.b -b.y.a))==gv.1)) then some (κ false) else some (ι ())) else some (κ false)))):Option (Bool⊕Unit)) (Sum.elim (fun q=>some q) (fun _=>(β ((bb (fun q=>A3 d b q) 0):Option (Bool⊕Unit)) (Sum.elim (fun q=>some q) (fun _=>(β (Mq l b) (fun rO=>some (decide (rO≤p.gP)))))))))))))))))
theorem ann {l:List aV} {d:List Df} {p:bh} (hv:Valid l d p) (b:Bx):MC l d p b=some (acc l d p b):=by
 have hd:=hv.dl;have kF:=hv.prod.l;unfold MC acc;rw [am6 (length_eq hv.fD hv.lc),aN,fe,MB (by omega),aN];cases hx:fp b.x with
 |false=>rfl
 |true=>
  cases hy:fp b.y with
  |false=>rfl
  |true=>
   cases hz:rP b.z (bA l) with
   |false=>rfl
   |true=>
    have hr:uT b.x b.y:=⟨AU hx,AU hy⟩;rw [anm (by omega),am3 hv.fD hv.lc hr (Ms hz)];simp only [Bool.true_and,Bool.not_true,cond_false];unfold nu;cases(k9 p (U (b.z.b -b.z.a))).2 with
    |false=>rfl
    |true=>
     cases(U (b.x.b -b.x.a))==(jg p).1<;>cases(U (b.y.b -b.y.a))==(jg p).2<;>cases(U (b.x.b -b.x.a))==(jg p).2<;>cases(U (b.y.b -b.y.a))==(jg p).1<;>cases d.any (n9 b)<;>rfl
def MD (d:List Df) (p:bh) (b:Bx) (ba:Int):Option Int:=
 (β (uU p (U (b.z.b -b.z.a))) (fun pv=>(β ((bb (fun q=>Es d b ba q.1 q.2) (pv.1,0)):Option Int) (fun n=>some (max 0 n)))))
theorem ano {d:List Df} {p:bh} (hd:d.length≤1000) (hp:rR p) (b:Bx) {ba:Int} (hf:0≤ba∧ba≤1000000):MD d p b ba=some (val d p b ba):=by
 unfold MD val;rw [MB (by have:=hp.l;omega),aN,anl hd b hf (W_ hp _)];rfl
def fl (b:Bx) (acc:List Df) (e:Df):List Df:=if iO b e=true then acc++[e] else acc
theorem Xa (b:Bx):∀(d acc:List Df),d.foldl (fl b) acc=acc++d.filter (iO b)
 |[],acc=>by simp
 |e::d,acc=>by
  rw [List.foldl_cons,Xa b d];unfold fl;cases h:iO b e with
  |true=>simp [h]
  |false=>simp [h]
theorem Xb {X Y z:Sp} {n:Int} (h:0≤z.a∧z.a<z.b∧z.b≤n) {e:Df} (ht:iO ⟨X,Y,z⟩ e=true):iO ⟨X,Y,⟨0,n⟩⟩ e=true:=by
 unfold iO at ht⊢;simp only [Bool.and_eq_true,decide_eq_true_eq] at ht⊢;refine⟨ht.1,ht.2.1,?_⟩;have:=ht.2.2;unfold ov at this⊢;dsimp only at this⊢;omega
theorem ME {X Y z:Sp} {n:Int} (h:0≤z.a∧z.a<z.b∧z.b≤n):∀(d:List Df),(d.filter (iO ⟨X,Y,⟨0,n⟩⟩)).any (n9 ⟨X,Y,z⟩)=d.any (n9 ⟨X,Y,z⟩)
 |[]=>rfl
 |e::d=>by
  rw [List.any_cons];cases hB:iO ⟨X,Y,⟨0,n⟩⟩ e with
  |true=>rw [List.filter_cons_of_pos hB,List.any_cons,ME h d]
  |false=>
   rw [List.filter_cons_of_neg (by simp [hB]),ME h d]
   have:n9 ⟨X,Y,z⟩ e=false:=by
    unfold n9;cases ht:iO ⟨X,Y,z⟩ e with
    |false=>simp
    |true=>
     rw [Xb h ht] at hB;exact absurd hB (by simp)
   rw [this];rfl
theorem Xc {X Y z:Sp} {n:Int} (h:0≤z.a∧z.a<z.b∧z.b≤n) (ba:Int):∀(d:List Df) (pr:Int),jq (d.filter (iO ⟨X,Y,⟨0,n⟩⟩)) ⟨X,Y,z⟩ ba pr=jq d ⟨X,Y,z⟩ ba pr
 |[],pr=>rfl
 |e::d,pr=>by
  have ih:=fun q=>Xc h ba d q (X:=X) (Y:=Y)
  unfold jq at ih⊢;rw [List.foldl_cons];cases hB:iO ⟨X,Y,⟨0,n⟩⟩ e with
  |true=>rw [List.filter_cons_of_pos hB,List.foldl_cons,ih]
  |false=>
   rw [List.filter_cons_of_neg (by simp [hB]),ih]
   have:vf ⟨X,Y,z⟩ ba pr e=pr:=by
    unfold vf;cases ht:iO ⟨X,Y,z⟩ e with
    |false=>simp
    |true=>
     rw [Xb h ht] at hB;exact absurd hB (by simp)
   rw [this]
def view (l:List aV) (d:List Df) (p:bh) (vr:aJ):iI:=⟨p,vr,bA l,mw vr.X vr.Y l 0,d.filter (iO ⟨vr.X,vr.Y,⟨0,bA l⟩⟩)⟩
theorem anp {l:List aV} {d:List Df} {p:bh} (hv:Valid l d p) {vr:aJ} (hx:fp vr.X=true) (hy:fp vr.Y=true) (hg:nu p vr.X vr.Y=true) (z:Sp) {ba:Int} (hf:0≤ba∧ba≤1000000):Dz (view l d p vr) z ba=some (bif acc l d p ⟨vr.X,vr.Y,z⟩ then(val d p ⟨vr.X,vr.Y,z⟩ ba,true) else(0,false)):=by
 have hd:=hv.dl;have kF:=hv.prod.l;unfold Dz acc;dsimp only;rw [hx,hy,hg,am5,show(view l d p vr).length=bA l from rfl,show(view l d p vr).product=p from rfl,show(view l d p vr).yR=mw vr.X vr.Y l 0 from rfl]
 cases hz:rP z (bA l) with
 |false=>rfl
 |true=>
  have jk:=Ms hz;rw [show(!true)=false from rfl,cond_false,ane,MB (by omega),aN]
  have e2:=am1 (l:=mw vr.X vr.Y l 0) (by rw [HA];have:=hv.fD.len;omega) z;rw [WN] at e2;rw [e2];have hpb:=W_ hv.prod (U (z.b -z.a));cases hp2:(k9 p (U (z.b -z.a))).2 with
  |false=>rfl
  |true=>
   rw [show(!true)=false from rfl,cond_false,aN,fe,show Ar (view l d p vr) z=⟨vr.X,vr.Y,z⟩ from rfl]
   by_cases hw:p.gP<wn vr.X vr.Y z l 0 0
   ·rw [decide_eq_true hw,decide_eq_false (p:=wn _ _ _ _ _ _≤_) (by omega)];simp
   ·rw [decide_eq_false hw,decide_eq_true (p:=wn _ _ _ _ _ _≤_) (by omega),cond_false];have mb:(d.filter (iO ⟨vr.X,vr.Y,⟨0,bA l⟩⟩)).length≤d.length:=List.length_filter_le ..
    have pS:=Mf (step:=fun q:Int×Int=>uy (view l d p vr) ba ⟨vr.X,vr.Y,z⟩ q.1 q.2) (d.filter (iO ⟨vr.X,vr.Y,⟨0,bA l⟩⟩)) (n9 ⟨vr.X,vr.Y,z⟩) (vf ⟨vr.X,vr.Y,z⟩ ba) (k9 p (U (z.b -z.a))).1 (fun n j=>(n,(j:Int))) (.inl (0,false)) (fun n=>.inr n) (fun j n=>-1000000*(j:Int)≤n∧n≤1000000) (by omega) (fun j n hj _ hn=>by
     unfold vf;split<;>omega) (fun n j hj hn kc=>by
     unfold n9 at kc;unfold uy vf;rw [show(view l d p vr).nL=d.filter (iO ⟨vr.X,vr.Y,⟨0,bA l⟩⟩) from rfl]
     dsimp only;rw [fm hj,cond_true,cQ hj,aN,My,A2,bK (by omega)];cases ht:iO ⟨vr.X,vr.Y,z⟩ (d.filter (iO ⟨vr.X,vr.Y,⟨0,bA l⟩⟩))[j] with
     |true=>
      rw [ht,Bool.and_true] at kc;rw [kc,bu (by omega) (by omega),if_pos rfl];rfl
     |false=>
      rw [if_neg (by simp)];rfl) (fun n j hj hn kc=>by
     unfold n9 at kc;rw [Bool.and_eq_true] at kc;unfold uy;rw [show(view l d p vr).nL=d.filter (iO ⟨vr.X,vr.Y,⟨0,bA l⟩⟩) from rfl]
     dsimp only;rw [fm hj,cond_true,cQ hj,aN,My,A2,kc.1,kc.2];rfl) (fun n _=>by
     unfold uy;rw [show(view l d p vr).nL=d.filter (iO ⟨vr.X,vr.Y,⟨0,bA l⟩⟩) from rfl]
     dsimp only;rw [fX];rfl)
    rw [show((k9 p (U (z.b -z.a))).1,((0:Nat):Int))=((k9 p (U (z.b -z.a))).1,(0:Int)) from rfl] at pS
    rw [pS,aN,ME jk];have Gk:=Xc jk ba d (k9 p (U (z.b -z.a))).1 (X:=vr.X) (Y:=vr.Y);unfold jq at Gk;rw [Gk];cases d.any (n9 ⟨vr.X,vr.Y,z⟩) with
    |true=>rfl
    |false=>
     show some (max _ 0,true)=some (val d p ⟨vr.X,vr.Y,z⟩ ba,true)
     unfold val jq;rw [Int.max_comm]
def Et (e:Df):Bool:=!(bif decide (e.k<1) then true else decide (6<e.k))&&(!(uQ e.b)&&Ej e.b)
theorem MF (d:List Df):∃c,AQ d=some c∧(c=0↔d.length≤64∧∀e∈d,Et e=true):=by
 unfold AQ;by_cases h1:64<d.length
 ·rw [decide_eq_true (by omega)];exact⟨4,rfl,by omega⟩
 ·rw [decide_eq_false (by omega),cond_false]
  obtain⟨y,hy,hG⟩:=p_ (step:=fun q:Int=>AP d q) (fun q=>∃k:Nat,k≤d.length∧q=(k:Int)∧∀(j:Nat) (hj:j<d.length),j<k→Et d[j]=true) (fun q=>d.length -q.toNat) (fun y=>(∃c,y=.inl c∧c≠0∧∃e∈d,Et e=false)∨(y=.inr ()∧∀e∈d,Et e=true)) (by
   rintro q ⟨k,hk,rfl,ha⟩;unfold AP;rcases Nat.lt_or_ge k d.length with bB|tw
   ·rw [fm bB,cond_true,cQ bB];simp only [aN];have fP:=List.getElem_mem bB;have hg:Et d[k]=(!(bif decide (d[k].k<1) then true else decide (6<d[k].k))&&(!(uQ d[k].b)&&Ej d[k].b)):=rfl
    have hv:(bif decide (d[k].k<1) then some true else some (decide (6<d[k].k)))=some (bif decide (d[k].k<1) then true else decide (6<d[k].k)):=by
     cases decide (d[k].k<1)<;>rfl
    rw [hv,aN,bK (by omega)];cases hA:(bif decide (d[k].k<1) then true else decide (6<d[k].k)) with
    |true=>
     rw [hA] at hg;exact .inr ⟨_,rfl,.inl ⟨_,rfl,by omega,_,fP,hg⟩⟩
    |false=>
     rw [hA] at hg;cases hB:uQ d[k].b with
     |true=>
      rw [hB] at hg;exact .inr ⟨_,rfl,.inl ⟨_,rfl,by omega,_,fP,hg⟩⟩
     |false=>
      rw [hB] at hg;cases hC:Ej d[k].b with
      |false=>
       rw [hC] at hg;exact .inr ⟨_,rfl,.inl ⟨_,rfl,by omega,_,fP,hg⟩⟩
      |true=>
       rw [hC] at hg;refine .inl ⟨_,rfl,⟨k+1,by omega,rfl,fun j hj hjk=>?_⟩,by omega⟩;rcases Nat.lt_or_ge j k with h5|h5
       ·exact ha j hj h5
       ·have:j=k:=by omega
        subst this;exact hg
   ·have:k=d.length:=by omega
    subst this;rw [fX];refine .inr ⟨_,rfl,.inr ⟨rfl,fun e he=>?_⟩⟩;obtain⟨j,hj,rfl⟩:=List.getElem_of_mem he;exact ha j hj hj) 0 ⟨0,by omega,rfl,fun j _ h=>by omega⟩
  rw [hy,aN];rcases hG with⟨c,rfl,hc,e,he,hb⟩|⟨rfl,ec⟩
  ·refine⟨c,rfl,fun h=>absurd h hc,fun h=>?_⟩;rw [h.2 e he] at hb;exact absurd hb (by simp)
  ·exact⟨0,rfl,fun _=>⟨by omega,ec⟩,fun _=>rfl⟩
def qU (l:List aV) (d:List Df) (p:bh):Bool:=(jL l==some 0)&&((AQ d==some 0)&&(AY [p]==some 0))
theorem anq {l:List aV} (hl:lY l) {d:List Df} {p:bh} (h:qU l d p=true):Valid l d p:=by
 unfold qU at h;simp only [Bool.and_eq_true,beq_iff_eq] at h;obtain⟨h1,h2,h3⟩:=h;obtain⟨c1,e1,HH⟩:=Ek l hl;obtain⟨c2,e2,HI⟩:=MF d;obtain⟨c3,_,e3,HJ⟩:=Mv p;rw [h1] at e1;rw [h2] at e2;rw [h3] at e3;cases e1;cases e2;cases e3;exact⟨HH rfl,h1,(HI.1 rfl).1,HJ rfl⟩
def MG (l:List aV) (d:List Df) (p:bh):Option Bool:=
 (β (jL l) (fun cv=>(bif(cv==0) then(β (AQ d) (fun bU=>(bif(bU==0) then(β (AY ([p])) (fun iK=>some (iK==0))) else some false))) else some false)))
theorem anr {l:List aV} (hl:lY l) (d:List Df) (p:bh):MG l d p=some (qU l d p):=by
 obtain⟨c1,e1,HH⟩:=Ek l hl;obtain⟨c2,e2,HI⟩:=MF d;obtain⟨c3,_,e3,HJ⟩:=Mv p;unfold MG qU;rw [e1,e2,e3];simp only [aN];have hs:∀c:Int,(some c==some (0:Int))=(c==0):=fun c=>rfl
 rw [hs,hs,hs];cases(c1==0)<;>cases(c2==0)<;>rfl
def zv:iI:=⟨⟨⟨#[]⟩,0,0,0,0,[],[]⟩,⟨⟨0,0⟩,⟨0,0⟩⟩,0,[],[]⟩
theorem look_eq {l:List aV} (hl:lY l) (d:List Df) (p:bh) (vr:aJ):Dv l d p vr=some (bif qU l d p&&(fp vr.X&&(fp vr.Y&&nu p vr.X vr.Y)) then(view l d p vr,true) else(zv,false)):=by
 obtain⟨c1,e1,HH⟩:=Ek l hl;obtain⟨c2,e2,HI⟩:=MF d;obtain⟨c3,e4,e3,HJ⟩:=Mv p;unfold Dv
 have hvd:qU l d p=((c1==0)&&((c2==0)&&(c3==0))):=by
  unfold qU;rw [e1,e2,e3];rfl
 rw [xC,e1,aN,amT,e2,aN,e4,aN,amX,aN,fe,Mi,hvd];by_cases h1:c1=0
 ·by_cases h2:c2=0
  ·by_cases h3:c3=0
   ·subst h1;subst h2;subst h3;have hv:Valid l d p:=⟨HH rfl,e1,(HI.1 rfl).1,HJ rfl⟩;have MH:=hv.dl;rw [show((0:Int)!=0)=false from rfl,cond_false,cond_false,cond_false,show((0:Int)==0)=true from rfl]
    cases hx:fp vr.X with
    |false=>rfl
    |true=>
     cases hy:fp vr.Y with
     |false=>rfl
     |true=>
      have hr:uT vr.X vr.Y:=⟨AU hx,AU hy⟩;rw [show(!(true&&true))=false from rfl,cond_false]
      have hm:((bif(!((U (vr.X.b -vr.X.a))==(jg p).1&&((U (vr.Y.b -vr.Y.a))==(jg p).2&&true))) then(bif(!((U (vr.X.b -vr.X.a))==(jg p).2&&((U (vr.Y.b -vr.Y.a))==(jg p).1&&true))) then some (κ ((⟨(⟨(⟨#[]⟩:ByteArray),0,0,0,0,[],[]⟩:bh),(⟨(⟨0,0⟩:Sp),(⟨0,0⟩:Sp)⟩:aJ),0,[],[]⟩:iI),false)) else some (ι ())) else some (ι ())):Option ((iI×Bool)⊕Unit))=some (bif nu p vr.X vr.Y then .inr () else .inl (zv,false)):=by
       unfold nu;cases(U (vr.X.b -vr.X.a))==(jg p).1<;>cases(U (vr.Y.b -vr.Y.a))==(jg p).2<;>cases(U (vr.X.b -vr.X.a))==(jg p).2<;>cases(U (vr.Y.b -vr.Y.a))==(jg p).1<;>rfl
      rw [hm,aN];cases hg:nu p vr.X vr.Y with
      |false=>rfl
      |true=>
       rw [cond_true,Sum.elim_inr,AS,length_eq hv.fD e1,aN,am0 hv.fD hr,aN,fe,show Ar (⟨p,vr,bA l,mw vr.X vr.Y l 0,[]⟩:iI) (⟨0,bA l⟩:Sp)=⟨vr.X,vr.Y,⟨0,bA l⟩⟩ from rfl]
       have pS:=Me (step:=fun q:Int×List Df=>w9 d ⟨vr.X,vr.Y,⟨0,bA l⟩⟩ q.1 q.2) d (fl ⟨vr.X,vr.Y,⟨0,bA l⟩⟩) [] (fun a j=>((j:Int),a)) (fun a=>a) (fun j a=>a.length≤j) (by simp) (fun j a hj ha=>by
        unfold fl;split
        ·simp;omega
        ·omega) (fun a j hj ha=>by
        unfold w9 fl;dsimp only;rw [fm hj,cond_true,cQ hj,aN,My,A2,bK (by omega)];cases iO ⟨vr.X,vr.Y,⟨0,bA l⟩⟩ d[j] with
        |true=>
         rw [cond_true,jT (by simp;omega) (by simp;omega),aN,if_pos rfl]
        |false=>rw [cond_false,if_neg (by simp)]) (fun a _=>by
        unfold w9;dsimp only;rw [fX];rfl)
       rw [Xa,List.nil_append] at pS;rw [show((0:Nat):Int)=0 from rfl] at pS
       rw [pS,aN];rfl
   ·rw [uP h3,show(c3==0)=false by simp [h3],Bool.and_false,Bool.and_false]
    subst h1;subst h2;rfl
  ·rw [uP h2,show(c2==0)=false by simp [h2],Bool.false_and,Bool.and_false]
   subst h1;rfl
 ·rw [uP h1,show(c1==0)=false by simp [h1]]
  rfl
theorem ant (n:Int):wT n=qT n 0 1000000:=rfl
theorem xJ {n low high:Int} (h:qT n low high=true):low≤n∧n≤high:=by
 rw [anj,Bool.and_eq_true,decide_eq_true_eq,decide_eq_true_eq] at h;exact h
theorem anu {l:List aV} {d:List Df} {p:bh} {b:Bx} (h:(fp b.x&&(fp b.y&&nu p b.x b.y))=false):acc l d p b=false:=by
 unfold acc;cases hx:fp b.x with
 |false=>rfl
 |true=>
  cases hy:fp b.y with
  |false=>rfl
  |true=>
   rw [hx,hy] at h;have hg:nu p b.x b.y=false:=h;rw [hg];cases rP b.z (bA l)<;>cases(k9 p (U (b.z.b -b.z.a))).2<;>rfl
def HK (p:bh) (step:Int) (n:Nat):List Sp:=(List.range n).flatMap fun(k:Nat)=>p.bG.map fun e=>(⟨(k:Int)*step,(k:Int)*step+e⟩:Sp)
theorem anv (p:bh) (step:Int) (n:Nat):HK p step (n+1)=HK p step n++p.bG.map fun e=>(⟨(n:Int)*step,(n:Int)*step+e⟩:Sp):=by
 unfold HK;rw [List.range_succ,List.flatMap_append];simp
def bs (l:List aV) (d:List Df) (p:bh) (vr:aJ) (ba:Int) (s:Int×Bool×Sp) (z:Sp):Int×Bool×Sp:=
 bif acc l d p ⟨vr.X,vr.Y,z⟩ then(bif !s.2.1||decide (s.1<val d p ⟨vr.X,vr.Y,z⟩ ba) then(val d p ⟨vr.X,vr.Y,z⟩ ba,true,z) else s) else s
theorem anw {l:List aV} {d:List Df} {p:bh} (hv:Valid l d p) {vr:aJ} (hx:fp vr.X=true) (hy:fp vr.Y=true) (hg:nu p vr.X vr.Y=true) {ba:Int} (hf:0≤ba∧ba≤1000000) {a:Int} (ha:0≤a∧a≤20000) (s:Int×Bool×Sp):
  bb (fun q:Int×Bool×Int×Sp=>uA p ba (view l d p vr,true) a q.1 q.2.1 q.2.2.1 q.2.2.2) (s.1,s.2.1,0,s.2.2)=some ((p.bG.map fun e=>(⟨a,a+e⟩:Sp)).foldl (bs l d p vr ba) s):=by
 have kF:=hv.prod.l;rw [List.foldl_map]
 have:=Hu (step:=fun q:Int×Bool×Int×Sp=>uA p ba (view l d p vr,true) a q.1 q.2.1 q.2.2.1 q.2.2.2) p.bG (fun s e=>bs l d p vr ba s ⟨a,a+e⟩) s (fun s j=>(s.1,s.2.1,(j:Int),s.2.2)) (fun s=>s) (fun s j hj=>by
  have hr:=hv.prod.r j hj;unfold uA bs;dsimp only;rw [fm hj,cond_true,cQ hj,aN,bu (n:=a+_) (by omega) (by omega),anp hv hx hy hg _ hf,aN,bK (by omega)];cases acc l d p ⟨vr.X,vr.Y,⟨a,a+p.bG[j]⟩⟩ with
  |false=>rfl
  |true=>
   cases h1:s.2.1 with
   |false=>rfl
   |true=>
    cases h2:decide (s.1<val d p ⟨vr.X,vr.Y,⟨a,a+p.bG[j]⟩⟩ ba) with
    |false=>simp [h2,h1]
    |true=>simp [h2]) (fun s=>by
  unfold uA;dsimp only;rw [fX];rfl)
 exact this
def Eu (l:List aV) (d:List Df) (p:bh) (vr:aJ) (ba:Int) (vz:Int) (nm:Int) (nV:Bool) (i:Int) (pN:Sp):Option ((Int×Bool×Int×Sp)⊕(Int×Bool×Sp)):=
 (bif(decide (i<((p.bG.length:Nat):Int))) then(β (aC p.bG i) (fun e=>(β (MC l d p (⟨vr.X,vr.Y,(⟨vz,U (vz+e)⟩:Sp)⟩:Bx)) (fun av=>(bif(!av) then some (κ (nm,nV,U (i+1),pN)) else(β (MD d p (⟨vr.X,vr.Y,(⟨vz,U (vz+e)⟩:Sp)⟩:Bx) ba) (fun aR=>(bif(!nV) then some (κ (aR,true,U (i+1),(⟨vz,U (vz+e)⟩:Sp))) else(bif(decide (nm<aR)) then some (κ (aR,true,U (i+1),(⟨vz,U (vz+e)⟩:Sp))) else some (κ (nm,nV,U (i+1),pN))))))))))) else some (ι (nm,nV,pN)))
theorem anx {l:List aV} {d:List Df} {p:bh} (hv:Valid l d p) (vr:aJ) {ba:Int} (hf:0≤ba∧ba≤1000000) {a:Int} (ha:0≤a∧a≤20000) (s:Int×Bool×Sp):
  bb (fun q:Int×Bool×Int×Sp=>Eu l d p vr ba a q.1 q.2.1 q.2.2.1 q.2.2.2) (s.1,s.2.1,0,s.2.2)=some ((p.bG.map fun e=>(⟨a,a+e⟩:Sp)).foldl (bs l d p vr ba) s):=by
 have kF:=hv.prod.l;have MH:=hv.dl;rw [List.foldl_map]
 have:=Hu (step:=fun q:Int×Bool×Int×Sp=>Eu l d p vr ba a q.1 q.2.1 q.2.2.1 q.2.2.2) p.bG (fun s e=>bs l d p vr ba s ⟨a,a+e⟩) s (fun s j=>(s.1,s.2.1,(j:Int),s.2.2)) (fun s=>s) (fun s j hj=>by
  have hr:=hv.prod.r j hj;unfold Eu bs;dsimp only;rw [fm hj,cond_true,cQ hj,aN,bu (n:=a+_) (by omega) (by omega),ann hv,aN,bK (by omega),ano (by omega) hv.prod _ hf,aN];cases acc l d p ⟨vr.X,vr.Y,⟨a,a+p.bG[j]⟩⟩ with
  |false=>rfl
  |true=>
   cases h1:s.2.1 with
   |false=>rfl
   |true=>
    cases h2:decide (s.1<val d p ⟨vr.X,vr.Y,⟨a,a+p.bG[j]⟩⟩ ba) with
    |false=>simp [h2,h1]
    |true=>simp [h2]) (fun s=>by
  unfold Eu;dsimp only;rw [fX];rfl)
 exact this
theorem rounds {L step:Int} (hL:0≤L) (hs:1≤step):∃n:Nat,(∀j:Nat,j<n→(j:Int)*step<L)∧L≤(n:Int)*step:=by
 refine⟨((L+step -1)/step).toNat,fun j hj=>?_,?_⟩
 ·have h1:(j:Int)+1≤(L+step -1)/step:=by omega
  have h2:=Int.mul_le_of_le_ediv (by omega) h1;rw [Int.add_mul] at h2;omega
 ·have h0:0≤(L+step -1)/step:=Int.ediv_nonneg (by omega) (by omega);rw [Int.toNat_of_nonneg h0];have:=Int.lt_ediv_add_one_mul_self (L+step -1) (show 0<step by omega)
  rw [Int.add_mul] at this;omega
theorem MI {l:List aV} (h:lX l):0≤bA l∧bA l≤20000:=by
 have:=qR h 0 (by omega);have:=h.xE;simp [bA] at*
 omega
def jQ (l:List aV) (d:List Df) (p:bh) (vr:aJ) (step ba:Int) (n:Nat):Int×Bool×Sp:=(HK p step n).foldl (bs l d p vr ba) (0,false,⟨0,0⟩)
theorem Xd (l:List aV) (d:List Df) (p:bh) (vr:aJ) (step ba:Int) (n:Nat):jQ l d p vr step ba (n+1)=(p.bG.map fun e=>(⟨(n:Int)*step,(n:Int)*step+e⟩:Sp)).foldl (bs l d p vr ba) (jQ l d p vr step ba n):=by
 unfold jQ;rw [anv,List.foldl_append]
theorem anz {l:List aV} {d:List Df} {p:bh} (hv:Valid l d p) {vr:aJ} (hx:fp vr.X=true) (hy:fp vr.Y=true) (hg:nu p vr.X vr.Y=true) {ba step:Int} (hf:0≤ba∧ba≤1000000) (hs:1≤step∧step≤20000) {n:Nat} (h1:∀j:Nat,j<n→(j:Int)*step<bA l) (h2:bA l≤(n:Int)*step):
  bb (fun q:Int×Bool×Int×Sp=>uB p step ba (view l d p vr,true) q.1 q.2.1 q.2.2.1 q.2.2.2) (0,false,0,⟨0,0⟩)=some (jQ l d p vr step ba n):=by
 have yk:=MI hv.fD
 have:=n4 (step:=fun q:Int×Bool×Int×Sp=>uB p step ba (view l d p vr,true) q.1 q.2.1 q.2.2.1 q.2.2.2) (fun j=>((jQ l d p vr step ba j).1,(jQ l d p vr step ba j).2.1,(j:Int)*step,(jQ l d p vr step ba j).2.2)) n (y:=jQ l d p vr step ba n) (fun j hj=>by
  have h3:=h1 j hj;have h4:0≤(j:Int)*step:=Int.mul_nonneg (by omega) (by omega);unfold uB;dsimp only;rw [show(view l d p vr).length=bA l from rfl,decide_eq_true h3,cond_true,anw hv hx hy hg hf (by omega) (jQ l d p vr step ba j),aN,←Xd,bu (by omega) (by omega),show((j+1:Nat):Int)*step=(j:Int)*step+step by rw [Int.natCast_add,Int.add_mul];omega]) (by
  unfold uB;dsimp only;rw [show(view l d p vr).length=bA l from rfl,decide_eq_false (by omega)]
  rfl)
 rw [show((0:Nat):Int)*step=0 by simp] at this
 exact this
def Ev (l:List aV) (d:List Df) (p:bh) (vr:aJ) (step:Int) (ba:Int) (jC:Int) (g':Bool) (vz:Int) (eY:Sp):Option ((Int×Bool×Int×Sp)⊕(Int×Bool×Sp)):=
 (β (rF l) (fun lv=>(bif(decide (vz<lv)) then(β ((bb (fun q=>Eu l d p vr ba vz q.1 q.2.1 q.2.2.1 q.2.2.2) (jC,g',0,eY)):Option (Int×Bool×Sp)) (fun w2=>some (κ (w2.1,w2.2.1,U (vz+step),w2.2.2)))) else some (ι (jC,g',eY)))))
theorem anA {l:List aV} {d:List Df} {p:bh} (hv:Valid l d p) (vr:aJ) {ba step:Int} (hf:0≤ba∧ba≤1000000) (hs:1≤step∧step≤20000) {n:Nat} (h1:∀j:Nat,j<n→(j:Int)*step<bA l) (h2:bA l≤(n:Int)*step):
  bb (fun q:Int×Bool×Int×Sp=>Ev l d p vr step ba q.1 q.2.1 q.2.2.1 q.2.2.2) (0,false,0,⟨0,0⟩)=some (jQ l d p vr step ba n):=by
 have yk:=MI hv.fD
 have:=n4 (step:=fun q:Int×Bool×Int×Sp=>Ev l d p vr step ba q.1 q.2.1 q.2.2.1 q.2.2.2) (fun j=>((jQ l d p vr step ba j).1,(jQ l d p vr step ba j).2.1,(j:Int)*step,(jQ l d p vr step ba j).2.2)) n (y:=jQ l d p vr step ba n) (fun j hj=>by
  have h3:=h1 j hj;have h4:0≤(j:Int)*step:=Int.mul_nonneg (by omega) (by omega);unfold Ev;dsimp only;rw [length_eq hv.fD hv.lc,aN,decide_eq_true h3,cond_true,anx hv vr hf (by omega) (jQ l d p vr step ba j),aN,←Xd,bu (by omega) (by omega),show((j+1:Nat):Int)*step=(j:Int)*step+step by rw [Int.natCast_add,Int.add_mul];omega]) (by
  unfold Ev;dsimp only;rw [length_eq hv.fD hv.lc,aN,decide_eq_false (by omega)];rfl)
 rw [show((0:Nat):Int)*step=0 by simp] at this
 exact this
theorem Xe {l:List aV} {d:List Df} {p:bh} {vr:aJ} {ba:Int} (h:(fp vr.X&&(fp vr.Y&&nu p vr.X vr.Y))=false):∀(c:List Sp) (s:Int×Bool×Sp),c.foldl (bs l d p vr ba) s=s
 |[],s=>rfl
 |z::c,s=>by
  have:bs l d p vr ba s z=s:=by
   unfold bs;rw [anu (b:=⟨vr.X,vr.Y,z⟩) h];rfl
  rw [List.foldl_cons,this,Xe h c]
def MJ (l:List aV) (d:List Df) (p:bh) (vr:aJ) (step ba:Int) (o:Sp×Int×Bool):Prop:=
 ((qT step 1 20000&&(qT ba 0 1000000&&qU l d p))=false∧o=(⟨0,0⟩,0,false))∨
 (Valid l d p∧(1≤step∧step≤20000)∧(0≤ba∧ba≤1000000)∧qU l d p=true∧∃n:Nat,(∀j:Nat,j<n→(j:Int)*step<bA l)∧bA l≤(n:Int)*step∧o=((jQ l d p vr step ba n).2.2,(jQ l d p vr step ba n).1,(jQ l d p vr step ba n).2.1))
def Xf (l:List aV) (d:List Df) (p:bh) (vr:aJ) (step:Int) (ba:Int):Option (Sp×Int×Bool):=
 (bif(!(qT step 1 20000)) then some ((⟨0,0⟩:Sp),0,false) else(bif(!(qT ba 0 1000000)) then some ((⟨0,0⟩:Sp),0,false) else(β (MG l d p) (fun vv=>(bif(!vv) then some ((⟨0,0⟩:Sp),0,false) else(β ((bb (fun q=>Ev l d p vr step ba q.1 q.2.1 q.2.2.1 q.2.2.2) (0,false,0,(⟨0,0⟩:Sp))):Option (Int×Bool×Sp)) (fun w3=>some (w3.2.2,w3.1,w3.2.1))))))))
theorem Xg {l:List aV} (hl:lY l) (d:List Df) (p:bh) (vr:aJ) (step ba:Int):∃o,uC l d p vr step ba=some o∧Xf l d p vr step ba=some o∧MJ l d p vr step ba o:=by
 unfold uC Xf;rw [show Ae step=qT step 1 20000 from rfl,ant,look_eq hl,anr hl]
 unfold MJ;cases jH:qT step 1 20000 with
 |false=>exact⟨_,rfl,rfl,.inl ⟨rfl,rfl⟩⟩
 |true=>
  cases hf:qT ba 0 1000000 with
  |false=>exact⟨_,rfl,rfl,.inl ⟨rfl,rfl⟩⟩
  |true=>
   simp only [Bool.not_true,cond_false,aN];cases hv:qU l d p with
   |false=>exact⟨_,rfl,rfl,.inl ⟨rfl,rfl⟩⟩
   |true=>
    have hV:=anq hl hv;have yk:=MI hV.fD;obtain⟨n,h1,h2⟩:=rounds yk.1 (xJ jH).1;have e2:=anA hV vr (xJ hf) (xJ jH) h1 h2;refine⟨((jQ l d p vr step ba n).2.2,(jQ l d p vr step ba n).1,(jQ l d p vr step ba n).2.1),?_,?_,.inr ⟨hV,xJ jH,xJ hf,rfl,n,h1,h2,rfl⟩⟩
    ·cases hs:(fp vr.X&&(fp vr.Y&&nu p vr.X vr.Y)) with
     |false=>
      unfold jQ;rw [Xe hs];rfl
     |true=>
      have cu:=hs;rw [Bool.and_eq_true,Bool.and_eq_true] at cu;have e1:=anz hV cu.1 cu.2.1 cu.2.2 (xJ hf) (xJ jH) h1 h2;simp only [Bool.and_true,cond_true,Bool.not_true,cond_false];rw [e1];rfl
    ·simp only [Bool.not_true,cond_false];rw [e2];rfl
theorem Xh (e:Sp) {a p b:Int} (h1:a≤p) (h2:p≤b):cm e ⟨a,b⟩=cm e ⟨a,p⟩+cm e ⟨p,b⟩:=by
 unfold cm;dsimp only;omega
theorem Xi {Y:Sp} {a p b:Int} (h1:a≤p) (h2:p≤b):∀(es:List Sp) (low:Int),dD ⟨a,b⟩ Y es low=dD ⟨a,p⟩ Y es low+dD ⟨p,b⟩ Y es low
 |[],_=>rfl
 |e::es,low=>by
  show cm e ⟨a,b⟩*cm (fu low) Y+dD ⟨a,b⟩ Y es (low+1)=cm e ⟨a,p⟩*cm (fu low) Y+dD ⟨a,p⟩ Y es (low+1)+(cm e ⟨p,b⟩*cm (fu low) Y+dD ⟨p,b⟩ Y es (low+1))
  rw [Xi h1 h2 es,Xh e h1 h2,Int.add_mul];omega
theorem Xj {X:Sp} {a p b:Int} (h1:a≤p) (h2:p≤b):∀(es:List Sp) (low:Int),dD X ⟨a,b⟩ es low=dD X ⟨a,p⟩ es low+dD X ⟨p,b⟩ es low
 |[],_=>rfl
 |e::es,low=>by
  show cm e X*cm (fu low) ⟨a,b⟩+dD X ⟨a,b⟩ es (low+1)=cm e X*cm (fu low) ⟨a,p⟩+dD X ⟨a,p⟩ es (low+1)+(cm e X*cm (fu low) ⟨p,b⟩+dD X ⟨p,b⟩ es (low+1))
  rw [Xj h1 h2 es,Xh (fu low) h1 h2,Int.mul_add];omega
theorem HL {Y z:Sp} {a p b:Int} (h1:a≤p) (h2:p≤b):∀(l:List aV) (at_:Int),d_ ⟨a,b⟩ Y z l at_=d_ ⟨a,p⟩ Y z l at_+d_ ⟨p,b⟩ Y z l at_
 |[],_=>rfl
 |e::es,k=>by
  show cm ⟨k,k+e.aT⟩ z*dD ⟨a,b⟩ Y e.cn.Rows e.cn.b6+d_ ⟨a,b⟩ Y z es (k+e.aT)=cm ⟨k,k+e.aT⟩ z*dD ⟨a,p⟩ Y e.cn.Rows e.cn.b6+d_ ⟨a,p⟩ Y z es (k+e.aT)+(cm ⟨k,k+e.aT⟩ z*dD ⟨p,b⟩ Y e.cn.Rows e.cn.b6+d_ ⟨p,b⟩ Y z es (k+e.aT))
  rw [HL h1 h2 es,Xi h1 h2,Int.mul_add];omega
theorem HM {X z:Sp} {a p b:Int} (h1:a≤p) (h2:p≤b):∀(l:List aV) (at_:Int),d_ X ⟨a,b⟩ z l at_=d_ X ⟨a,p⟩ z l at_+d_ X ⟨p,b⟩ z l at_
 |[],_=>rfl
 |e::es,k=>by
  show cm ⟨k,k+e.aT⟩ z*dD X ⟨a,b⟩ e.cn.Rows e.cn.b6+d_ X ⟨a,b⟩ z es (k+e.aT)=cm ⟨k,k+e.aT⟩ z*dD X ⟨a,p⟩ e.cn.Rows e.cn.b6+d_ X ⟨a,p⟩ z es (k+e.aT)+(cm ⟨k,k+e.aT⟩ z*dD X ⟨p,b⟩ e.cn.Rows e.cn.b6+d_ X ⟨p,b⟩ z es (k+e.aT))
  rw [HM h1 h2 es,Xj h1 h2,Int.mul_add];omega
def WF:Sp:=⟨-600,600⟩
theorem MK {a:Sp} (h:-1000000≤a.a∧a.a≤1000000∧-1000000≤a.b∧a.b≤1000000):i_ a=max 0 (a.b -a.a):=by
 unfold i_ Dt Ao;by_cases h2:a.b≤a.a
 ·rw [decide_eq_true h2,cond_true,bu (by omega) (by omega)];omega
 ·rw [decide_eq_false h2,cond_false,AT,AT,AT,bu (by omega) (by omega)];omega
theorem Xk:∀(es:List Sp) (low:Int),(∀e∈es,-600≤e.a∧e.a≤600∧-600≤e.b∧e.b≤600)→-60≤low→low+es.length≤60→dD WF WF es low=10*(es.map fun e=>max 0 (e.b -e.a)).sum
 |[],_,_,_,_=>rfl
 |e::es,low,h,h1,h2=>by
  have he:=h e (List.mem_cons_self ..);rw [List.length_cons] at h2;have ih:=Xk es (low+1) (fun e he=>h e (List.mem_cons_of_mem _ he)) (by omega) (by omega);show cm e WF*cm (fu low) WF+dD WF WF es (low+1)=_
  have c1:cm e WF=max 0 (e.b -e.a):=by unfold cm WF;dsimp only;omega
  have c2:cm (fu low) WF=10:=by unfold cm WF fu;dsimp only;omega
  rw [ih,c1,c2,List.map_cons,List.sum_cons];omega
theorem anB {s:b7} (h:mu s) (hc:oR s=some 0):DR s=some (dD WF WF s.Rows s.b6):=by
 have hl:=h.len;have hw:=h.low
 have key:∀j,j≤s.Rows.length→0≤((s.Rows.take j).map fun e=>max 0 (e.b -e.a)).sum∧((s.Rows.take j).map fun e=>max 0 (e.b -e.a)).sum≤1200*j:=by
  intro j
  induction j with
  |zero=>intro _;simp
  |succ j ih=>
   intro hj;have:=ih (by omega);have hr:=h.ta _ (List.getElem_mem (show j<s.Rows.length by omega))
   rw [List.take_succ_eq_append_getElem (by omega),List.map_append,List.sum_append];simp only [List.map_cons,List.map_nil,List.sum_cons,List.sum_nil];omega
 unfold DR qG;rw [Hv,hc,aN,show((0:Int)!=0)=false from rfl,cond_false,aN]
 have:=n4 (step:=fun q:Int×Int=>xt s q.1 q.2) (fun j=>(((s.Rows.take j).map fun e=>max 0 (e.b -e.a)).sum,(j:Int))) s.Rows.length (y:=(s.Rows.map fun e=>max 0 (e.b -e.a)).sum) (fun j hj=>by
  have hr:=h.ta _ (List.getElem_mem hj);have k1:=key j (by omega);unfold xt;dsimp only;rw [fm hj,cond_true,cQ hj,aN,MK (by omega),bu (n:=_+_) (by omega) (by omega),bK (by omega),List.take_succ_eq_append_getElem hj,List.map_append,List.sum_append];simp) (by
  unfold xt;dsimp only;rw [fX,List.take_length];rfl)
 rw [show(((s.Rows.take 0).map fun e=>max 0 (e.b -e.a)).sum,((0:Nat):Int))=((0:Int),(0:Int)) from rfl] at this
 rw [this,aN];have k2:=key s.Rows.length (Nat.le_refl _);rw [List.take_length] at k2;rw [bu (by omega) (by omega),Xk s.Rows s.b6 h.ta hw.1 hw.2]
def iz:List aV→Int
 |[]=>0
 |e::es=>e.aT*dD WF WF e.cn.Rows e.cn.b6+iz es
theorem Xl:∀(l:List aV) (e:aV),iz (l++[e])=iz l+e.aT*dD WF WF e.cn.Rows e.cn.b6
 |[],e=>by simp [iz]
 |f::l,e=>by
  show f.aT*_+iz (l++[e])=f.aT*_+iz l+_
  rw [Xl l e];omega
theorem ML:∀(l:List aV),(∀e∈l,mu e.cn∧1≤e.aT∧e.aT≤20000)→0≤iz l∧iz l≤28800000000*l.length
 |[],_=>⟨Int.le_refl _,Int.le_refl _⟩
 |e::es,h=>by
  obtain⟨h1,h2,h3⟩:=h e (List.mem_cons_self ..);have ih:=ML es fun e he=>h e (List.mem_cons_of_mem _ he)
  have w1:=uS WF WF e.cn.Rows e.cn.b6;have w2:=Em WF WF e.cn.Rows e.cn.b6 h1.ta;have hl:=h1.len;have h4:=Int.mul_le_mul (a:=e.aT) (c:=20000) (b:=dD WF WF e.cn.Rows e.cn.b6) (d:=1440000) h3 (by omega) w1 (by omega);have h5:=Int.mul_nonneg (show 0≤e.aT by omega) w1
  show 0≤e.aT*_+iz es∧e.aT*_+iz es≤28800000000*((es.length+1:Nat):Int)
  omega
theorem MM {l:List aV} (h:lX l) (hc:jL l=some 0):uK l=some (iz l):=by
 have hl:=h.len;unfold uK rJ;rw [xC,hc,aN,show((0:Int)!=0)=false from rfl,cond_false,aN]
 have:=n4 (step:=fun q:Int×Int=>xu l q.1 q.2) (fun j=>(iz (l.take j),(j:Int))) l.length (y:=iz l) (fun j hj=>by
  have hs:=h.sec _ (List.getElem_mem hj);have hb:=ML (l.take j) fun e he=>Eo h e (List.mem_of_mem_take he)
  have mH:=ML (l.take (j+1)) fun e he=>Eo h e (List.mem_of_mem_take he)
  have kI:=Xl (l.take j) l[j];rw [←List.take_succ_eq_append_getElem hj] at kI;rw [List.length_take] at hb mH;unfold xu;dsimp only;rw [fm hj,cond_true,cQ hj,aN,anB hs.1 hs.2.2,aN,bK (by omega)];have h5:=Int.mul_nonneg (show 0≤l[j].aT by omega) (uS WF WF l[j].cn.Rows l[j].cn.b6)
  rw [bu (n:=_*_) (by omega) (by omega),←kI,bu (by omega) (by omega)]) (by
  unfold xu;dsimp only;rw [fX,List.take_length];rfl)
 rw [show(iz (l.take 0),((0:Nat):Int))=((0:Int),(0:Int)) from rfl] at this
 rw [this];rfl
def V0 (l:List aV) (r:aJ):Int:=d_ r.X r.Y ⟨0,bA l⟩ l 0
def xK (r:aJ):Prop:=-600≤r.X.a∧r.X.a≤r.X.b∧r.X.b≤600∧-600≤r.Y.a∧r.Y.a≤r.Y.b∧r.Y.b≤600
theorem Ew {α:Type} {xs:List α} {i j:Int} {a:α} (hi:0≤i) (h:j≠i):aC (aU xs i a) j=aC xs j:=by
 unfold aU;cases j with
 |negSucc k=>rfl
 |ofNat k=>
  show(xs.set i.toNat a)[k]?=xs[k]?
  rw [List.getElem?_set_ne];intro e;apply h;rw [←Int.toNat_of_nonneg hi,e];rfl
theorem MN {α:Type} {xs:List α} {i:Int} {a:α} (hi:0≤i) (h:i<xs.length):aC (aU xs i a) i=some a:=by
 obtain⟨k,rfl⟩:=Int.eq_ofNat_of_zero_le hi;show(xs.set k a)[k]?=some a
 rw [List.getElem?_set_self (by omega)]
theorem jh {α:Type} (xs:List α) (i:Int) (a:α):(aU xs i a).length=xs.length:=by simp [aU]
theorem Xm {l:List aV} {d:List Df} {p:bh} {vr:aJ} {ba:Int}:∀(cs:List Sp) (s:Int×Bool×Sp),(s.2.1=true→acc l d p ⟨vr.X,vr.Y,s.2.2⟩=true)→(cs.foldl (bs l d p vr ba) s).2.1=true→acc l d p ⟨vr.X,vr.Y,(cs.foldl (bs l d p vr ba) s).2.2⟩=true
 |[],s,h=>h
 |z::cs,s,h=>by
  refine Xm cs (bs l d p vr ba s z) ?_;unfold bs;cases ha:acc l d p ⟨vr.X,vr.Y,z⟩ with
  |false=>exact h
  |true=>
   rw [cond_true];cases(!s.2.1||decide (s.1<val d p ⟨vr.X,vr.Y,z⟩ ba)) with
   |false=>exact h
   |true=>exact fun _=>ha
theorem anC {l:List aV} {d:List Df} {p:bh} {vr:aJ} {step ba:Int} {o:Sp×Int×Bool} (h:MJ l d p vr step ba o) (ec:o.2.2=true):qU l d p=true∧acc l d p ⟨vr.X,vr.Y,o.1⟩=true:=by
 rcases h with⟨_,rfl⟩|⟨_,_,_,hv,n,_,_,rfl⟩
 ·cases ec
 ·exact⟨hv,Xm _ _ (fun h=>by cases h) ec⟩
theorem anD {l:List aV} {d:List Df} {p:bh} {b:Bx} (h:acc l d p b=true):(-600≤b.x.a∧b.x.a<b.x.b∧b.x.b≤600)∧(-600≤b.y.a∧b.y.a<b.y.b∧b.y.b≤600)∧(0≤b.z.a∧b.z.a<b.z.b∧b.z.b≤bA l):=by
 unfold acc at h;simp only [Bool.and_eq_true] at h;exact⟨AU h.1,AU h.2.1,Ms h.2.2.1⟩
theorem HN (k:Int):iN k=true↔(k=2∨k=3):=by
 unfold iN;by_cases h:k=2
 ·subst h;simp
 ·rw [show(k==2)=false by simp [h],cond_false]
  simp [h]
theorem Xn {α:Type} {xs:List α} (h:xs≠[]):aC xs ((((xs.length:Nat):Int)) -1)=some (xs.getLast h)∧kJ xs ((((xs.length:Nat):Int)) -1)=some xs.dropLast:=by
 have hl:=List.length_pos_iff.2 h;constructor
 ·rw [show(((xs.length:Nat):Int)) -1=((xs.length -1:Nat):Int) by omega,cQ (by omega),List.getLast_eq_getElem]
 ·unfold kJ;rw [decide_eq_true (by omega),decide_eq_true (by omega),show((((xs.length:Nat):Int)) -1).toNat=xs.length -1 by omega,List.dropLast_eq_take]
  rfl
theorem anE {r:aJ} {n:bq} {kerf:Int} (hk:0≤kerf∧kerf≤20) (hr:xK r) (h:(b8 r n.Kind).a<n.At∧n.At<(b8 r n.Kind).b):(-600<n.At∧n.At<600)∧xK (cJ r n kerf).1∧xK (cJ r n kerf).2.2:=by
 obtain⟨g1,g2,g3,g4,g5,g6⟩:=hr;unfold cJ;simp only [fe];unfold b8 at h;unfold b8 xv;cases hU:(n.Kind==2) with
 |true=>
  rw [hU,cond_true] at h;simp only [cond_true];rw [bu (n:=n.At+kerf) (by omega) (by omega)];exact⟨by omega,⟨g1,by dsimp only;omega,by dsimp only;omega,g4,g5,g6⟩,⟨by dsimp only;omega,by dsimp only;omega,g3,g4,g5,g6⟩⟩
 |false=>
  rw [hU,cond_false] at h;simp only [cond_false];rw [bu (n:=n.At+kerf) (by omega) (by omega)];exact⟨by omega,⟨g1,g2,g3,g4,by dsimp only;omega,by dsimp only;omega⟩,⟨g1,g2,g3,by dsimp only;omega,by dsimp only;omega,g6⟩⟩
theorem anF {r:aJ} (h:(-600≤r.X.a∧r.X.a<r.X.b∧r.X.b≤600)∧(-600≤r.Y.a∧r.Y.a<r.Y.b∧r.Y.b≤600)):xK r:=⟨by omega,by omega,by omega,by omega,by omega,by omega⟩
def bH {α:Type} (o:Option α) (P:α→Prop):Prop:=∃v,o=some v∧P v
section
variable{α β γ:Type} {P:α→Prop} {Q:β→Prop}
theorem aO {v:α} (h:P v):bH (some v) P:=⟨v,rfl,h⟩
theorem aH {o:Option β} {f:β→Option α} (h:bH o Q) (k:∀v,Q v→bH (f v) P):bH (o.bind f) P:=by
 obtain⟨v,rfl,hv⟩:=h;exact k v hv
theorem bl {c:Bool} {a b:Option α} (h1:c=true→bH a P) (h2:c=false→bH b P):bH (bif c then a else b) P:=by
 cases c with
 |true=>exact h1 rfl
 |false=>exact h2 rfl
theorem rS {x:β} {f:β→Option α} (h:bH (f x) P):bH (cU x f) P:=h
theorem xL {f:β→Option α} {g:γ→Option α} {z:β⊕γ} (h1:∀a,z=.inl a→bH (f a) P) (h2:∀a,z=.inr a→bH (g a) P):bH (Sum.elim f g z) P:=by
 cases z with
 |inl a=>exact h1 a rfl
 |inr a=>exact h2 a rfl
theorem dg {xs:List α} {j:Nat} (h:j<xs.length):bH (aC xs (j:Int)) (fun v=>v=xs[j]):=⟨_,cQ h,rfl⟩
theorem fy {xs:List α} {i:Int} (h0:0≤i) (h:i<xs.length):bH (aC xs i) (fun v=>v∈xs):=by
 obtain⟨j,rfl⟩:=Int.eq_ofNat_of_zero_le h0;exact⟨_,cQ (by omega),List.getElem_mem _⟩
theorem ny {b:Nat} {xs ys:List α} (h1:(xs.length+ys.length)*b≤140737488355328) (h2:xs.length+ys.length≤9223372036854775807):bH (cK b xs ys) (fun v=>v=xs++ys):=⟨_,jT h1 h2,rfl⟩
theorem rT {b:Nat} {z:α} {n:Nat} (h1:n≤9223372036854775807) (h2:n*b≤281474976710656):bH (kn b z (n:Int)) (fun v=>v=List.replicate n z):=by
 refine⟨_,aaI (by omega) (by omega) ?_,by simp⟩;have:((n*b:Nat):Int)≤281474976710656:=by omega
 simpa using this
theorem Ex {o:Option α} {P':α→Prop} (h:bH o P) (k:∀v,P v→P' v):bH o P':=by
 obtain⟨v,e,hv⟩:=h;exact⟨v,e,k v hv⟩
theorem di {X Y:Type} {step:X→Option (X⊕Y)} {G:Y→Prop} (n:Nat) (ix:X→Int) (I:X→Prop) (h:∀x (j:Nat),I x→ix x=(j:Int)→j<n→bH (step x) (fun z=>(∃x',z=.inl x'∧I x'∧ix x'=((j+1:Nat):Int))∨∃y,z=.inr y∧G y)) (he:∀x,I x→ix x=(n:Int)→bH (step x) (fun z=>∃y,z=.inr y∧G y)) {x0:X} (h0:I x0) {j0:Nat} (hi:ix x0=(j0:Int)) (hj:j0≤n):bH (bb step x0) G:=by
 refine p_ (fun x=>I x∧∃j:Nat,ix x=(j:Int)∧j≤n) (fun x=>n -(ix x).toNat) G ?_ x0 ⟨h0,j0,hi,hj⟩;rintro x ⟨hI,j,hx,hjn⟩;by_cases bB:j<n
 ·obtain⟨z,hz,hh⟩:=h x j hI hx bB;rcases hh with⟨x',rfl,b,c⟩|⟨y,rfl,g⟩
  ·exact .inl ⟨x',hz,⟨b,j+1,c,bB⟩,by rw [c,hx];omega⟩
  ·exact .inr ⟨y,hz,g⟩
 ·have:j=n:=by omega
  subst this;obtain⟨z,hz,y,rfl,g⟩:=he x hI hx;exact .inr ⟨y,hz,g⟩
end
theorem ea {X Y:Type} {G:Y→Prop} {n:Nat} {i:Int} (hi:i=(n:Int)) {a:Option (X⊕Y)} {y:Y} (h:G y):bH (bif(decide (i<((n:Nat):Int))) then a else some (ι y)) (fun z=>∃y,z=.inr y∧G y):=by
 subst hi;rw [fX];exact⟨_,rfl,y,rfl,h⟩
theorem ei {X Y:Type} {R:X⊕Y→Prop} {n j:Nat} {i:Int} (hi:i=(j:Int)) (hj:j<n) {a b:Option (X⊕Y)} (h:bH a R):bH (bif(decide (i<((n:Nat):Int))) then a else b) R:=by
 subst hi;rw [fm hj];exact h
theorem Ey (q:Int):0≤Int.tmod (U (Int.tmod q 4+4)) 4∧Int.tmod (U (Int.tmod q 4+4)) 4<4:=by
 have h1:=Int.tmod_lt_of_pos q (show(0:Int)<4 by decide)
 have h2:=Int.lt_tmod_of_pos q (show(0:Int)<4 by decide)
 rw [bu (by omega) (by omega)];exact⟨Int.tmod_nonneg _ (by omega),Int.tmod_lt_of_pos _ (by decide)⟩
theorem anG (P:List bh) (S:cS) (R:da):bH (Cp ⟨[],[],P,S,R⟩) (fun b=>b=true→P.length≤3):=by
 have hP:∀q:Bool,(q=true→P.length≤3)→bH (some q) (fun b=>b=true→P.length≤3):=fun q h=>⟨_,rfl,h⟩
 have hF:bH (some false) (fun b=>b=true→P.length≤3):=⟨_,rfl,fun h=>by cases h⟩;unfold Cp;refine aH (Q:=fun z=>z=.inl false∨(z=.inr ()∧P.length≤3)) ?_ ?_
 ·refine rS (aH (Q:=fun b=>True) ?_ ?_)
  ·unfold Gp Gm;dsimp only;refine bl (fun _=>aO trivial) (fun _=>bl (fun _=>aO trivial) (fun _=>bl (fun _=>aO trivial) (fun Xo=>bl (fun _=>aO trivial) (fun _=>aH (Q:=fun _=>True) ?_ (fun w _=>bl (fun _=>aO trivial) (fun _=>aH (Q:=fun _=>True) ?_ (fun z _=>xL (fun _ _=>aO trivial) (fun _ _=>aH (Q:=fun _=>True) ?_ (fun z _=>xL (fun _ _=>aO trivial) (fun _ _=>aO trivial))))))))))
   ·unfold Gn;dsimp only
    have hlen:P.length≤20:=by
     have:=of_decide_eq_false Xo;omega
    refine aH (Q:=fun _=>True) ⟨0,fr (step:=fun q:Int×Int=>Cj _ q.1 q.2) rfl,trivial⟩ (fun lg _=>aH (Q:=fun _=>True) ?_ (fun ls _=>aH (Q:=fun _=>True) (bl (fun h=>bl (fun _=>aO trivial) (fun h2=>?_)) (fun _=>aO trivial)) (fun v _=>aO trivial)))
    ·refine di P.length (fun q:Int×Int=>q.2) (fun _=>True) (fun x j _ hx hj=>?_) (fun x _ hx=>?_) trivial rfl (Nat.zero_le _)
     ·unfold y7;refine ei hx hj (aH (by rw [hx];exact dg hj) (fun e _=>aO (.inl ⟨_,rfl,trivial,?_⟩)));dsimp only;rw [hx,bK (by omega)]
     ·unfold y7;exact ea hx trivial
    ·have:=of_decide_eq_true h;simp at h2;omega
   ·exact⟨.inr (),fr (step:=fun q:Int=>Ck _ q) rfl,trivial⟩
   ·have hlen:P.length≤20:=by
     have:=of_decide_eq_false Xo;omega
    refine di P.length (fun q:Int=>q) (fun _=>True) (fun x j _ hx hj=>?_) (fun x _ hx=>?_) trivial rfl (Nat.zero_le _)
    ·unfold y9;subst hx;refine ei rfl hj (aH (dg hj) (fun e _=>bl (fun _=>aO (.inr ⟨_,rfl,trivial⟩)) (fun _=>aH (dg hj) (fun e2 _=>bl (fun _=>aO (.inr ⟨_,rfl,trivial⟩)) (fun _=>aH (dg hj) (fun e3 _=>bl (fun _=>aO (.inr ⟨_,rfl,trivial⟩)) (fun _=>aO (.inl ⟨_,rfl,trivial,bK (by omega)⟩))))))))
    ·unfold y9;exact ea hx trivial
  ·intro b _;refine bl (fun _=>aO (.inl rfl)) (fun _=>bl (fun _=>aO (.inl rfl)) (fun _=>bl (fun _=>aO (.inl rfl)) (fun h3=>?_)));have h3:=of_decide_eq_false h3;have hp:P.length≤3:=by dsimp only at h3;omega
   refine bl (fun _=>bl (fun _=>aO (.inl rfl)) (fun _=>bl (fun _=>bl (fun _=>aO (.inl rfl)) (fun _=>aO (.inr ⟨rfl,hp⟩))) (fun _=>aO (.inr ⟨rfl,hp⟩)))) (fun _=>bl (fun _=>bl (fun _=>aO (.inl rfl)) (fun _=>aO (.inr ⟨rfl,hp⟩))) (fun _=>aO (.inr ⟨rfl,hp⟩)))
 ·rintro z (rfl|⟨rfl,hp⟩)
  ·exact hF
  ·rw [Sum.elim_inr];refine aH (Q:=fun z=>z=.inl false∨z=.inr ()) ?_ ?_
   ·refine di P.length (fun q:Int=>q) (fun _=>True) (fun x j _ hx hj=>?_) (fun x _ hx=>?_) trivial rfl (Nat.zero_le _)
    ·unfold za;subst hx;exact ei rfl hj (aH (dg hj) (fun e _=>bl (fun _=>aO (.inr ⟨_,rfl,.inl rfl⟩)) (fun _=>aO (.inl ⟨_,rfl,trivial,bK (by omega)⟩))))
    ·unfold za;exact ea hx (.inr rfl)
   ·rintro z (rfl|rfl)
    ·exact hF
    ·rw [Sum.elim_inr];refine aH (Q:=fun c=>c=3) ⟨3,rfl,rfl⟩ ?_;rintro c rfl;exact hP true (fun _=>by omega)
structure Xp (t:me):Prop where
 rings:t.Scan.bM.length≤6
 A4:t.Scan.dm.length≤70
 reads:∀r∈t.Scan.bM,r.Read.length≤40
 anH:t.dT.length≤3
theorem anI (t:me):bH (Ct t) (fun b=>b=true→Xp t):=by
 have hF:bH (some false) (fun b=>b=true→Xp t):=⟨_,rfl,fun h=>by cases h⟩;unfold Ct;refine bl (fun _=>hF) (fun h1=>bl (fun _=>hF) (fun h2=>aH (anG _ _ _) (fun b hb=>bl (fun _=>hF) (fun rh=>?_))));have hb:=hb (by simpa using rh);have h1:=of_decide_eq_false h1;have h2:=of_decide_eq_false h2;refine aH (Q:=fun z=>z=.inl false∨(z=.inr ()∧∀r∈t.Scan.bM,r.Read.length≤40)) ?_ ?_
 ·refine di t.Scan.bM.length (fun q:Int=>q) (fun q=>∀(j:Nat) (hj:j<t.Scan.bM.length),(j:Int)<q→t.Scan.bM[j].Read.length≤40) (fun x j hI hx hj=>?_) (fun x hI hx=>?_) (fun j _ h=>absurd h (by omega)) rfl (Nat.zero_le _)
  ·unfold zc;subst hx;refine ei rfl hj (aH (Q:=fun z=>z=.inl (.inr (.inl false))∨(z=.inr ()∧t.Scan.bM[j].Read.length≤40)) ?_ ?_)
   ·refine aH (dg hj) ?_;rintro e rfl;refine bl (fun _=>aO (.inl rfl)) (fun Xq=>aH (dg hj) (fun e1 _=>bl (fun _=>aO (.inl rfl)) (fun _=>?_)));have Xq:=of_decide_eq_false Xq;refine di t.Scan.bM[j].Read.length (fun q:Int=>q) (fun _=>True) (fun x k _ hx hk=>?_) (fun x _ hx=>?_) trivial rfl (Nat.zero_le _)
    ·unfold zb;subst hx;exact ei rfl hk (aH (dg hk) (fun e _=>bl (fun _=>aO (.inr ⟨_,rfl,.inl rfl⟩)) (fun _=>bl (fun _=>aO (.inr ⟨_,rfl,.inl rfl⟩)) (fun _=>bl (fun _=>aO (.inr ⟨_,rfl,.inl rfl⟩)) (fun _=>bl (fun _=>aO (.inr ⟨_,rfl,.inl rfl⟩)) (fun _=>aO (.inl ⟨_,rfl,trivial,bK (by omega)⟩)))))))
    ·unfold zb;exact ea hx (.inr ⟨rfl,by omega⟩)
   ·rintro z (rfl|⟨rfl,hr⟩)
    ·exact aO (.inr ⟨_,rfl,.inl rfl⟩)
    ·refine aO (.inl ⟨_,rfl,?_,bK (by omega)⟩);rw [bK (by omega)];intro k hk bB;by_cases e:k=j
     ·subst e;exact hr
     ·exact hI k hk (by omega)
  ·unfold zc;refine ea hx (.inr ⟨rfl,fun r hr=>?_⟩);obtain⟨k,hk,rfl⟩:=List.mem_iff_getElem.1 hr;exact hI k hk (by omega)
 ·rintro z (rfl|⟨rfl,hr⟩)
  ·exact hF
  ·exact aO (fun _=>⟨by omega,by omega,hr,hb⟩)
theorem anJ {α:Type} {Xr:Nat} {xs:List α} (h1:xs.length*Xr≤140737488355328) (h2:xs.length≤9223372036854775807):cK Xr ([]:List α) xs=some xs:=by
 rw [jT (by simpa using h1) (by simpa using h2),List.nil_append]
theorem xM {α:Type} {b:Nat} {xs:List α} (h1:xs.length*b≤140737488355328) (h2:xs.length≤9223372036854775807):bH (cK b ([]:List α) xs) (fun v=>v=xs):=⟨_,anJ h1 h2,rfl⟩
theorem HO (r:cw):bH (tZ r) (fun e=>e=0→8≤r.Read.length∧r.Read.length≤32):=by
 have hE:∀n:Int,n≠0→bH (some n) (fun e=>e=0→8≤r.Read.length∧r.Read.length≤32):=fun n h=>⟨n,rfl,fun e=>absurd e h⟩
 unfold tZ;refine bl (fun _=>hE 3 (by decide)) (fun h1=>bl (fun _=>hE 4 (by decide)) (fun h2=>bl (fun _=>hE 9 (by decide)) (fun _=>bl (fun _=>hE 9 (by decide)) (fun _=>?_))));have h1:=of_decide_eq_false h1;have h2:=of_decide_eq_false h2;refine aH (Q:=fun z=>(∃n:Int,z=.inl n∧n≠0)∨z=.inr ()) ?_ ?_
 ·refine di r.Read.length (fun q:Int=>q) (fun _=>True) (fun x j _ hx hj=>?_) (fun x _ hx=>?_) trivial rfl (Nat.zero_le _)
  ·unfold zd;subst hx;have s9:∀n:Int,n≠0→bH (some (ι (κ n)):Option (Int⊕(Int⊕Unit))) (fun z=>(∃x',z=.inl x'∧True∧x'=((j+1:Nat):Int))∨∃y,z=.inr y∧((∃n:Int,y=.inl n∧n≠0)∨y=.inr ())):=fun n h=>aO (.inr ⟨_,rfl,.inl ⟨n,rfl,h⟩⟩)
   have nx:bH (some (κ (U ((j:Int)+1))):Option (Int⊕(Int⊕Unit))) (fun z=>(∃x',z=.inl x'∧True∧x'=((j+1:Nat):Int))∨∃y,z=.inr y∧((∃n:Int,y=.inl n∧n≠0)∨y=.inr ())):=aO (.inl ⟨_,rfl,trivial,bK (by omega)⟩);exact ei rfl hj (aH (dg hj) (fun e _=>bl (fun _=>bl (fun _=>s9 9 (by decide)) (fun _=>bl (fun _=>s9 9 (by decide)) (fun _=>nx))) (fun _=>bl (fun _=>s9 19 (by decide)) (fun _=>nx))))
  ·unfold zd;exact ea hx (.inr rfl)
 ·rintro z (⟨n,rfl,h⟩|rfl)
  ·exact hE n h
  ·exact aO (fun _=>by omega)
theorem Xs (s:eA):bH (zj s) (fun e=>e=0→(2≤s.bM.length∧s.bM.length≤24)∧j_ s.dm=some 0):=by
 have hE:∀n:Int,n≠0→bH (some n) (fun e=>e=0→(2≤s.bM.length∧s.bM.length≤24)∧j_ s.dm=some 0):=fun n h=>⟨n,rfl,fun e=>absurd e h⟩
 unfold zj;refine bl (fun _=>hE 3 (by decide)) (fun h1=>bl (fun _=>hE 4 (by decide)) (fun h2=>?_));have h1:=of_decide_eq_false h1;have h2:=of_decide_eq_false h2;have hl:2≤s.bM.length∧s.bM.length≤24:=by omega
 have hN:∀z:Int⊕Unit,z=.inr ()→∀n,z=.inl n→n≠0:=fun z h n e=>by rw [h] at e;cases e
 refine aH (Q:=fun z:Int⊕Unit=>∀n,z=.inl n→n≠0) ?_ (fun z hz=>xL (fun n e=>hE n (hz n e)) (fun _ _=>?_))
 ·refine di s.bM.length (fun q:Int=>q) (fun _=>True) (fun x j _ hx hj=>?_) (fun x _ hx=>?_) trivial rfl (Nat.zero_le _)
  ·unfold zh;subst hx;have er:∀n:Int,n≠0→bH (some (ι (κ n)):Option (Int⊕(Int⊕Unit))) (fun z=>(∃x',z=.inl x'∧True∧x'=((j+1:Nat):Int))∨∃y:Int⊕Unit,z=.inr y∧∀n,y=.inl n→n≠0):=fun n h=>aO (.inr ⟨_,rfl,fun m e=>by cases e;exact h⟩)
   have nx:bH (some (κ (U ((j:Int)+1))):Option (Int⊕(Int⊕Unit))) (fun z=>(∃x',z=.inl x'∧True∧x'=((j+1:Nat):Int))∨∃y:Int⊕Unit,z=.inr y∧∀n,y=.inl n→n≠0):=aO (.inl ⟨_,rfl,trivial,bK (by omega)⟩);have g0:bH (aC s.bM 0) (fun v=>v∈s.bM):=fy (Int.le_refl _) (by omega)
   have gp:decide (0<(j:Int))=true→bH (aC s.bM (U ((j:Int) -1))) (fun v=>v∈s.bM):=fun h=>by
    have h:=of_decide_eq_true h;rw [bu (by omega) (by omega)];exact fy (by omega) (by omega)
   refine ei rfl hj (aH (dg hj) (fun e _=>aH (HO e) (fun c _=>bl (fun h=>er c (by simpa using h)) (fun _=>bl (fun _=>bl (fun _=>er 11 (by decide)) (fun _=>bl (fun h=>aH (gp h) (fun e1 _=>bl (fun _=>er 11 (by decide)) (fun _=>aH g0 (fun e2 _=>bl (fun _=>er 19 (by decide)) (fun _=>nx))))) (fun _=>aH g0 (fun e3 _=>bl (fun _=>er 19 (by decide)) (fun _=>nx))))) (fun _=>bl (fun h=>aH (gp h) (fun e4 _=>bl (fun _=>er 11 (by decide)) (fun _=>aH g0 (fun e5 _=>bl (fun _=>er 19 (by decide)) (fun _=>nx))))) (fun _=>aH g0 (fun e6 _=>bl (fun _=>er 19 (by decide)) (fun _=>nx))))))))
  ·unfold zh;exact ea hx (hN _ rfl)
 ·by_cases hd:s.dm.length≤9223372036854775807
  ·refine aH (Q:=fun c=>j_ s.dm=some c) ⟨_,Er hd,Er hd⟩ (fun c hc=>bl (fun h=>hE c (by simpa using h)) (fun h0=>aH (Q:=fun v=>v∈s.bM) ?_ (fun e _=>aH (Q:=fun z:Int⊕Unit=>∀n,z=.inl n→n≠0) ?_ (fun z hz=>xL (fun n e=>hE n (hz n e)) (fun _ _=>aO fun _=>⟨hl,by rw [hc];simpa using h0⟩)))))
   ·rw [bu (by omega) (by omega)];exact fy (by omega) (by omega)
   ·refine di s.dm.length (fun q:Int=>q) (fun _=>True) (fun x j _ hx hj=>?_) (fun x _ hx=>?_) trivial rfl (Nat.zero_le _)
    ·unfold zi;subst hx;exact ei rfl hj (aH (dg hj) (fun e _=>bl (fun _=>aO (.inr ⟨_,rfl,fun n e=>by cases e;decide⟩)) (fun _=>aO (.inl ⟨_,rfl,trivial,bK (by omega)⟩))))
    ·unfold zi;exact ea hx (hN _ rfl)
  ·have hlen:j_ s.dm=some 4:=by
    unfold j_;rw [decide_eq_true (by omega)];rfl
   refine aH (Q:=fun c=>c=4) ⟨4,hlen,rfl⟩ ?_;rintro c rfl;exact hE 4 (by decide)
structure A5 (s:eA):Prop where
 rings:s.bM.length≤6
 A4:s.dm.length≤70
 reads:∀r∈s.bM,r.Read.length≤40
theorem anK (l:List Df) (q:Int) (hl:l.length≤70):bH (ua l q) (fun v=>v.length≤70∧(j_ l=some 0→v.length=l.length)):=by
 unfold ua;refine aH (Q:=fun c=>j_ l=some c) ⟨_,Er (by omega),Er (by omega)⟩ (fun c hc=>bl (fun h=>aO ⟨Nat.zero_le _,fun e=>by rw [hc] at e;cases e;cases h⟩) (fun _=>aH (rT (by omega) (by omega)) ?_));rintro m rfl;refine aH (Q:=fun v=>v.length=l.length) ?_ (fun v hv=>aO ⟨by omega,fun _=>hv⟩);refine di l.length (fun q:Int×List Df=>q.1) (fun x=>x.2.length=l.length) (fun x j hI hx hj=>?_) (fun x hI hx=>?_) (by simp) rfl (Nat.zero_le _)
 ·unfold sQ;refine ei hx hj (aH (Q:=fun v=>v.length=l.length) ?_ (fun v hv=>aO (.inl ⟨_,rfl,hv,?_⟩)))
  ·rw [hx];refine aH (dg hj) (fun e _=>aH (Q:=fun _=>True) ?_ (fun d _=>aH (dg (by omega)) (fun e1 _=>aO (by rw [jh];exact hI))));obtain⟨m1,m2⟩:=Ey q;obtain⟨n,hn⟩:=Int.eq_ofNat_of_zero_le m1;refine di n (fun q:Int×Df=>q.1) (fun _=>True) (fun x j _ hx hj=>?_) (fun x _ hx=>?_) trivial rfl (Nat.zero_le _)
   ·unfold sP;rw [hn];refine ei hx hj (aO (.inl ⟨_,rfl,trivial,?_⟩));dsimp only;rw [hx,bK (by omega)]
   ·unfold sP;rw [hn];exact ea hx trivial
  ·dsimp only;rw [hx,bK (by omega)]
 ·unfold sQ;exact ea hx hI
theorem anL (p:List aS) (q:Int) (hp:p.length≤1000):bH (ub p q) (fun v=>v.length≤p.length):=by
 unfold ub;refine aH (Q:=fun _=>True) ?_ (fun c _=>bl (fun _=>aO (Nat.zero_le _)) (fun _=>aH (Q:=fun _=>True) ?_ (fun e _=>aH (rT (by omega) (by omega)) ?_)))
 ·unfold GA;refine aH (Q:=fun _=>True) ?_ (fun z _=>xL (fun _ _=>aO trivial) (fun _ _=>aO trivial));refine di p.length (fun q:Int=>q) (fun _=>True) (fun x j _ hx hj=>?_) (fun x _ hx=>?_) trivial rfl (Nat.zero_le _)
  ·unfold zn;subst hx;exact ei rfl hj (aH (dg hj) (fun e _=>bl (fun _=>aO (.inr ⟨_,rfl,trivial⟩)) (fun _=>bl (fun _=>aO (.inr ⟨_,rfl,trivial⟩)) (fun _=>aO (.inl ⟨_,rfl,trivial,bK (by omega)⟩)))))
  ·unfold zn;exact ea hx trivial
 ·exact Ex (fy (Ey q).1 (Ey q).2) (fun _ _=>trivial)
 ·rintro m rfl;refine aH (Q:=fun v=>v.length≤p.length) ?_ (fun v hv=>aO hv);refine di p.length (fun q:Int×List aS=>q.1) (fun x=>x.2.length=p.length) (fun x j hI hx hj=>?_) (fun x hI hx=>?_) (by simp) rfl (Nat.zero_le _)
  ·unfold zo;refine ei hx hj ?_;rw [hx];refine aH (dg hj) (fun e1 _=>aH (dg (by omega)) (fun e2 _=>aO (.inl ⟨_,rfl,?_,?_⟩)))
   ·dsimp only;rw [jh];exact hI
   ·dsimp only;rw [bK (by omega)]
  ·unfold zo;exact ea hx (Nat.le_of_eq hI)
theorem anM (r:cw) (q:Int) (hr:r.Read.length≤40):bH (uc r q) (fun v=>v.Read.length≤40∧v.Z=r.Z):=by
 unfold uc zm sO;refine aH (Q:=fun v=>v=r) (aH (xM (by omega) (by omega)) (by rintro v rfl;exact aO rfl)) ?_;rintro v rfl;refine aH (HO v) (fun c hc=>bl (fun _=>aO ⟨hr,rfl⟩) (fun h0=>aH (rT (by omega) (by omega)) ?_));rintro m rfl;refine aH (Q:=fun p:List aS=>p.length=v.Read.length) ?_ (fun p hp=>aH (Q:=fun x:List dA=>x.length=v.Read.length) (aH (anL p q (by omega)) (fun tv rU=>?_)) (fun x hx=>aO ⟨by dsimp only;omega,rfl⟩))
 ·refine di v.Read.length (fun q:Int×List aS=>q.1) (fun x=>x.2.length=v.Read.length) (fun x j hI hx hj=>?_) (fun x hI hx=>?_) (by simp) rfl (Nat.zero_le _)
  ·unfold zp;refine ei hx hj ?_;rw [hx];refine aH (dg hj) (fun e1 _=>aH (dg (by omega)) (fun e2 _=>aO (.inl ⟨_,rfl,?_,?_⟩)))
   ·dsimp only;rw [jh];exact hI
   ·dsimp only;rw [bK (by omega)]
  ·unfold zp;exact ea hx hI
 ·refine di tv.length (fun q:Int×List dA=>q.1) (fun x=>x.2.length=v.Read.length) (fun x j hI hx hj=>?_) (fun x hI hx=>?_) rfl rfl (Nat.zero_le _)
  ·unfold zq;refine ei hx hj ?_;rw [hx];refine aH (dg hj) (fun e1 _=>aH (dg (by omega)) (fun e2 _=>aO (.inl ⟨_,rfl,?_,?_⟩)))
   ·dsimp only;rw [jh];exact hI
   ·dsimp only;rw [bK (by omega)]
  ·unfold zq;exact ea hx hI
theorem anN {n:Int} (h:(n !=0)=false):n=0:=by simpa using h
theorem HP {α:Type} {xs:List α} {j:Nat} {a:α} {k:Nat} (hk:k<(aU xs (j:Int) a).length):(aU xs (j:Int) a)[k]=if j=k then a else xs[k]'(by rw [jh] at hk;exact hk):=by
 have h:k<(xs.set j a).length:=hk;have e:(xs.set j a)[k]'h=if j=k then a else xs[k]'(by rw [jh] at hk;exact hk):=by rw [List.getElem_set]
 exact e
theorem anO {α β:Type} {xs:List α} (f:α→β) {j:Nat} (hj:j<xs.length) (a:α) (h:f a=f xs[j]):(aU xs (j:Int) a).map f=xs.map f:=by
 refine List.ext_getElem (by simp [jh]) fun k k1 k2=>?_
 rw [List.getElem_map,List.getElem_map,HP];by_cases e:j=k
 ·subst e;rw [if_pos rfl,h]
 ·rw [if_neg e]
theorem anP (s:eA) (q:Int) (h:A5 s):bH (uh s q) (fun t=>A5 t∧t.dm.length=s.dm.length∧t.bM.map (fun r=>r.Z)=s.bM.map fun r=>r.Z):=by
 have h1:=h.rings;have h2:=h.A4;unfold uh;refine aH (Xs s) (fun c hc=>bl (fun _=>?_) (fun h0=>?_))
 ·unfold Gy Gx zk;refine aH (Q:=fun t=>A5 t∧t.dm.length=s.dm.length∧t.bM.map (fun r=>r.Z)=s.bM.map fun r=>r.Z) (aH (xM (by omega) (by omega)) ?_) (fun v hv=>aO hv);rintro rv rfl;refine aH (xM (by omega) (by omega)) ?_;rintro dv rfl;refine aH (Q:=fun l:List cw=>(l.length≤6∧l.map (fun r=>r.Z)=s.bM.map fun r=>r.Z)∧∀r∈l,r.Read.length≤40) ?_ (fun l hl=>aO ⟨⟨hl.1.1,h2,hl.2⟩,rfl,hl.1.2⟩);refine di s.bM.length (fun q:Int×List cw=>q.1) (fun x=>(x.2.length=s.bM.length∧x.2.map (fun r=>r.Z)=s.bM.map fun r=>r.Z)∧∀r∈x.2,r.Read.length≤40) (fun x j hI hx hj=>?_) (fun x hI hx=>?_) ⟨⟨rfl,rfl⟩,h.reads⟩ rfl (Nat.zero_le _)
  ·unfold zl sO;refine ei hx hj ?_;rw [hx];obtain⟨⟨i1,i3⟩,i2⟩:=hI;refine aH (dg (by omega)) ?_;rintro e rfl;have he:=i2 _ (List.getElem_mem (show j<x.2.length by omega))
   refine aH (xM (by omega) (by omega)) ?_;rintro jO rfl;refine aH (dg (show j<x.2.length by omega)) ?_
   rintro e1 rfl;refine aO (.inl ⟨_,rfl,⟨⟨?_,?_⟩,fun r hr=>?_⟩,?_⟩)
   ·dsimp only;rw [jh];exact i1
   ·dsimp only;rw [←i3];exact anO _ (show j<x.2.length by omega) _ rfl
   ·rcases List.mem_or_eq_of_mem_set hr with hr|hr
    ·exact i2 r hr
    ·rw [hr];exact he
   ·dsimp only;rw [bK (by omega)]
  ·unfold zl;exact ea hx ⟨⟨by have:=hI.1.1;omega,hI.1.2⟩,hI.2⟩
 ·refine aH (rT (by omega) (by omega)) ?_;rintro m rfl;refine aH (anK s.dm q h2) (fun tv rU=>aH (Q:=fun l:List cw=>(l.length=s.bM.length∧∀(k:Nat) (h1:k<l.length) (h2:k<s.bM.length),l[k].Z=s.bM[k].Z)∧∀r∈l,r.Read.length≤40) ?_ (fun l hl=>aO ⟨⟨by dsimp only;omega,rU.1,hl.2⟩,rU.2 (hc (anN h0)).2,List.ext_getElem (by simp [hl.1.1]) fun k k1 k2=>by rw [List.getElem_map,List.getElem_map];exact hl.1.2 k _ _⟩));refine di s.bM.length (fun q:Int×List cw=>q.1) (fun x=>(x.2.length=s.bM.length∧∀(k:Nat) (h1:k<x.2.length) (h2:k<s.bM.length),(k:Int)<x.1→x.2[k].Z=s.bM[k].Z)∧∀r∈x.2,r.Read.length≤40) (fun x j hI hx hj=>?_) (fun x hI hx=>?_) ⟨⟨by simp,fun k _ _ h=>absurd h (by dsimp only;omega)⟩,fun r hr=>by rw [List.mem_replicate] at hr;rw [hr.2];exact Nat.zero_le _⟩ rfl (Nat.zero_le _)
  ·unfold sR;refine ei hx hj ?_;rw [hx];obtain⟨⟨i1,i3⟩,i2⟩:=hI;refine aH (dg hj) ?_;rintro e rfl;refine aH (anM _ q (h.reads _ (List.getElem_mem hj))) (fun v hv=>aH (dg (by omega)) (fun e1 _=>aO (.inl ⟨_,rfl,⟨⟨?_,fun k k1 k2 bB=>?_⟩,fun r hr=>?_⟩,?_⟩)))
   ·dsimp only;rw [jh];exact i1
   ·dsimp only at k1 bB⊢;rw [bK (by omega)] at bB;rw [HP];by_cases e:j=k
    ·subst e;rw [if_pos rfl];exact hv.2
    ·rw [if_neg e];exact i3 k _ k2 (by omega)
   ·rcases List.mem_or_eq_of_mem_set hr with hr|hr
    ·exact i2 r hr
    ·rw [hr];exact hv.1
   ·dsimp only;rw [bK (by omega)]
  ·unfold sR;exact ea hx ⟨⟨hI.1.1,fun k k1 k2=>hI.1.2 k k1 k2 (by omega)⟩,hI.2⟩
def MO (n:Nat) (l:List Int):Prop:=l.length≤n∧∀i∈l,0≤i∧i<n
theorem MP (r:cw) (hr:r.Read.length≤40):bH (wy r) (MO r.Read.length):=by
 unfold wy;refine aH (Q:=MO r.Read.length) ?_ (fun v hv=>aO hv);refine di r.Read.length (fun q:List Int×Int=>q.2) (fun x=>((x.1.length:Nat):Int)≤x.2∧∀i∈x.1,0≤i∧i<r.Read.length) (fun x j hI hx hj=>?_) (fun x hI hx=>?_) ⟨Int.le_refl _,fun i hi=>by cases hi⟩ rfl (Nat.zero_le _)
 ·obtain⟨i1,i2⟩:=hI;unfold zr;refine ei hx hj ?_;rw [hx] at i1⊢;refine aH (dg hj) (fun e _=>bl (fun _=>aH (ny (by simp only [List.length_cons,List.length_nil];omega) (by simp only [List.length_cons,List.length_nil];omega)) ?_) (fun _=>aO (.inl ⟨_,rfl,⟨?_,i2⟩,?_⟩)))
  ·rintro l2 rfl;refine aO (.inl ⟨_,rfl,⟨?_,fun i hi=>?_⟩,?_⟩)
   ·dsimp only;rw [bK (by omega),List.length_append,List.length_cons,List.length_nil];omega
   ·rcases List.mem_append.1 hi with hi|hi
    ·exact i2 i hi
    ·rw [List.mem_singleton] at hi;omega
   ·dsimp only;rw [bK (by omega)]
  ·dsimp only;rw [bK (by omega)];omega
  ·dsimp only;rw [bK (by omega)]
 ·unfold zr;exact ea hx ⟨by have:=hI.1;omega,hI.2⟩
theorem td {n:Int} (h:(n !=0)=false):n=0:=by simpa using h
theorem Ez {a n:Int} (ha:0≤a) (hn:0<n):0≤Int.tmod a n∧Int.tmod a n<n:=⟨Int.tmod_nonneg _ ha,Int.tmod_lt_of_pos _ hn⟩
theorem anQ (r:cw) (lim:Int) (hr:r.Read.length≤40):bH (CG r lim) (fun v=>v.Read.length≤40):=by
 unfold CG zm sO;refine aH (Q:=fun v=>v=r) (aH (xM (by omega) (by omega)) (by rintro v rfl;exact aO rfl)) ?_;rintro v rfl;refine aH (MP v hr) (fun mv hm=>bl (fun _=>aO hr) (fun _=>bl (fun _=>aO hr) (fun h2=>aH (HO v) (fun c _=>bl (fun _=>aO hr) (fun _=>aH (Q:=fun l:List dA=>l.length=v.Read.length) ?_ (fun l hl=>aO (by dsimp only;omega)))))));have h2:=of_decide_eq_false h2;obtain⟨m1,m2⟩:=hm;refine di mv.length (fun q:Int×List dA=>q.1) (fun x=>x.2.length=v.Read.length) (fun x j hI hx hj=>?_) (fun x hI hx=>?_) rfl rfl (Nat.zero_le _)
 ·unfold zu;refine ei hx hj (aH (Q:=fun l:List dA=>l.length=v.Read.length) ?_ (fun l hl=>aO (.inl ⟨_,rfl,hl,?_⟩)))
  ·rw [hx];refine aH (dg hj) ?_;rintro e rfl;obtain⟨e1,e2⟩:=m2 _ (List.getElem_mem hj);refine aH (Q:=fun _=>True) ?_ (fun o _=>bl (fun _=>aH (fy e1 (by omega)) (fun _ _=>aO (by rw [jh];exact hI))) (fun _=>aO hI));refine di 2 (fun q:Bool×Int=>q.2) (fun _=>True) (fun y k _ hy hk=>?_) (fun y _ hy=>?_) trivial rfl (Nat.zero_le _)
   ·unfold zt;have hU:decide (y.2<2)=true:=decide_eq_true (by omega);rw [hU,cond_true,hy];refine aH (Q:=fun a:Int=>a=-1∨a=1) ?_ (fun a ha=>bl (fun _=>?_) (fun h0=>absurd (td h0) (by omega)))
    ·match k,hk with
     |0,_=>exact⟨_,rfl,.inl rfl⟩
     |1,_=>exact⟨_,rfl,.inr rfl⟩
    ·have te:0≤U (U ((j:Int)+((mv.length:Nat):Int))+a):=by
      rw [bu (n:=(j:Int)+_) (by omega) (by omega),bu (by omega) (by omega)];omega
     obtain⟨t1,t2⟩:=Ez te (show(0:Int)<((mv.length:Nat):Int) by omega)
     refine aH (fy t1 t2) (fun NK he2=>?_);obtain⟨f1,f2⟩:=m2 _ he2;have nx:∀b:Bool,bH (some (κ (b,U ((k:Int)+1))):Option ((Bool×Int)⊕Bool)) (fun z=>(∃x',z=.inl x'∧True∧x'.2=((k+1:Nat):Int))∨∃y,z=.inr y∧True):=fun b=>aO (.inl ⟨_,rfl,trivial,bK (by omega)⟩)
     exact aH (fy f1 (by omega)) (fun e3 _=>bl (fun _=>aH (fy e1 (by omega)) (fun e4 _=>nx _)) (fun _=>nx _))
   ·unfold zt;have hU:decide (y.2<2)=false:=decide_eq_false (by omega);rw [hU];exact aO ⟨_,rfl,trivial⟩
  ·dsimp only;rw [hx,bK (by omega)]
 ·unfold zu;exact ea hx hI
theorem Xt {r:cw} (hr:r.Read.length≤40) {l:List Int} (hm:MO r.Read.length l) {k:Nat} (hk:k<l.length):bH (zx r l (k:Int)) (fun v=>v≤80):=by
 obtain⟨m1,m2⟩:=hm;unfold zx;refine bl (fun h=>?_) (fun h=>?_)
 ·have h:=of_decide_eq_true h;rw [bK (by omega)] at h⊢;have hU:k+1<l.length:=by omega
  refine aH (dg hU) ?_;rintro e rfl;refine aH (dg hk) ?_;rintro e1 rfl;obtain⟨a1,a2⟩:=m2 _ (List.getElem_mem hU);obtain⟨b1,b2⟩:=m2 _ (List.getElem_mem hk);refine aO ?_;rw [bu (n:=l[k+1] -l[k]) (by omega) (by omega),bu (by omega) (by omega)];omega
 ·refine aH (fy (Int.le_refl 0) (by omega)) (fun e he=>aH (dg hk) ?_);rintro e1 rfl;obtain⟨a1,a2⟩:=m2 _ he;obtain⟨b1,b2⟩:=m2 _ (List.getElem_mem hk);refine aO ?_;rw [bu (n:=e+_) (by omega) (by omega),bu (n:=e+_ -_) (by omega) (by omega),bu (by omega) (by omega)];omega
theorem anS (r:cw) (hr:r.Read.length≤40):bH (CK r) (fun _=>True):=by
 unfold CK;refine aH (MP r hr) (fun mv hm=>bl (fun _=>aO trivial) (fun _=>aH (Q:=fun _=>True) ?_ (fun _ _=>aO trivial)));have hl:=hm.1;refine di mv.length (fun q:Int×Int=>q.2) (fun _=>True) (fun x j _ hx hj=>?_) (fun x _ hx=>?_) trivial rfl (Nat.zero_le _)
 ·unfold zy;refine ei hx hj ?_;rw [hx];refine aH (Xt hr hm hj) (fun b _=>aO (.inl ⟨_,rfl,trivial,?_⟩));dsimp only;rw [bK (by omega)]
 ·unfold zy;exact ea hx trivial
theorem Xu (a:Int) {b:Int} (hb:b≠0):bH (zA a b) (fun _=>True):=by
 unfold zA;rw [uP hb,cond_true,cond_true];exact bl (fun _=>aO trivial) (fun _=>aO trivial)
theorem anT (r:cw) (most:Int) (hr:r.Read.length≤40):bH (CN r most) (fun v=>v.1.length≤40):=by
 unfold CN;refine aH (HO r) (fun c hc=>bl (fun _=>aO (Nat.zero_le _)) (fun h0=>aH (MP r hr) (fun mv hm=>aH (anS r hr) (fun g _=>aH (Q:=fun z=>(∃v:(List aS)×Int,z=.inl v∧v.1=[])∨z=.inr ()) (bl (fun _=>aO (.inl ⟨_,rfl,rfl⟩)) (fun _=>bl (fun _=>bl (fun _=>aO (.inl ⟨_,rfl,rfl⟩)) (fun _=>aO (.inr rfl))) (fun _=>aO (.inr rfl)))) ?_))))
 have hc8:8≤r.Read.length:=by
  have:c=0:=by simpa using h0
  exact(hc this).1
 have hml:=hm.1;rintro z (⟨v,rfl,hv⟩|rfl)
 ·exact aO (by rw [hv];exact Nat.zero_le _)
 ·rw [Sum.elim_inr];refine aH (rT (by omega) (by omega)) ?_;rintro m rfl;refine aH (Q:=fun p:List aS=>p.length=r.Read.length) ?_ (fun p hp=>aO (by dsimp only;omega));refine di mv.length (fun q:Int×List aS=>q.1) (fun x=>x.2.length=r.Read.length) (fun x j hI hx hj=>?_) (fun x hI hx=>?_) (by simp) rfl (Nat.zero_le _)
  ·unfold zB;refine ei hx hj (aH (Q:=fun p:List aS=>p.length=r.Read.length) ?_ (fun p hp=>aO (.inl ⟨_,rfl,hp,?_⟩)))
   ·rw [hx];refine aH (dg hj) ?_;rintro e rfl;obtain⟨e1,e2⟩:=hm.2 _ (List.getElem_mem hj);refine aH (fy e1 (by omega)) (fun rd _=>bl (fun _=>?_) (fun h=>absurd (td h) (by omega)));have te:0≤U ((j:Int)+1):=by rw [bK (by omega)];omega
    obtain⟨t1,t2⟩:=Ez te (show(0:Int)<((mv.length:Nat):Int) by omega)
    refine aH (fy t1 t2) (fun i2 Bo=>?_);obtain⟨f1,f2⟩:=hm.2 _ Bo;refine aH (fy f1 (by omega)) (fun rd2 _=>aH (fy e1 (by omega)) (fun _ _=>aH (Xt hr hm hj) (fun bv xN=>?_)));refine di 100 (fun q:Int×List aS=>q.1) (fun x=>x.2.length=r.Read.length∧1≤x.1∧x.1≤82) (fun y k El hy hk=>?_) (fun y El hy=>?_) (j0:=1) ⟨by rw [jh];exact hI,Int.le_refl 1,by show(1:Int)≤82;decide⟩ rfl (by decide)
    ·obtain⟨i1,i2,i3⟩:=El;unfold CM;refine bl (fun hle=>?_) (fun _=>aO (.inr ⟨_,rfl,i1⟩));have hle:=of_decide_eq_true hle;refine bl (fun _=>?_) (fun h=>absurd (td h) (by omega));have ep:U (bv+1)≠0:=by rw [bu (by omega) (by omega)];omega
     have te:0≤U (mv[j]+y.1):=by rw [bu (by omega) (by omega)];omega
     obtain⟨t1,t2⟩:=Ez te (show(0:Int)<((y.2.length:Nat):Int) by omega)
     refine aH (Xu _ ep) (fun _ _=>aH (Xu _ ep) (fun _ _=>aH (fy t1 t2) (fun _ _=>aO (.inl ⟨_,rfl,⟨by dsimp only;rw [jh];exact i1,?_,?_⟩,?_⟩))))
     ·dsimp only;rw [bu (by omega) (by omega)];omega
     ·dsimp only;rw [bu (by omega) (by omega)];omega
     ·dsimp only;rw [hy,bK (by omega)]
    ·exact absurd El.2.2 (by omega)
   ·dsimp only;rw [hx,bK (by omega)]
  ·unfold zB;exact ea hx hI
def RP (q:aS):Prop:=(-600≤q.X∧q.X≤600)∧(-600≤q.Y∧q.Y≤600)
theorem Xv {n:Int} (h:(!(wC n))=false):-600≤n∧n≤600:=by
 unfold wC at h;by_cases h1:-600≤n
 ·rw [decide_eq_true h1,cond_true] at h;exact⟨h1,by simpa using h⟩
 ·rw [decide_eq_false h1] at h;cases h
theorem MQ (p:List aS) (hp:p.length≤1000):bH (wD p) (fun b=>b=true→∀q∈p,RP q):=by
 unfold wD;refine aH (Q:=fun z=>z=.inl false∨(z=.inr ()∧∀q∈p,RP q)) ?_ ?_
 ·refine di p.length (fun q:Int=>q) (fun x=>∀(j:Nat) (hj:j<p.length),(j:Int)<x→RP p[j]) (fun x j hI hx hj=>?_) (fun x hI hx=>?_) (fun j _ h=>absurd h (by omega)) rfl (Nat.zero_le _)
  ·unfold zD;subst hx;refine ei rfl hj (aH (dg hj) ?_);rintro e rfl;refine bl (fun _=>aO (.inr ⟨_,rfl,.inl rfl⟩)) (fun h1=>bl (fun _=>aO (.inr ⟨_,rfl,.inl rfl⟩)) (fun h2=>aO (.inl ⟨_,rfl,?_,bK (by omega)⟩)));rw [bK (by omega)];intro k hk bB;by_cases e:k=j
   ·subst e;exact⟨Xv h1,Xv h2⟩
   ·exact hI k hk (by omega)
  ·unfold zD;refine ea hx (.inr ⟨rfl,fun q hq=>?_⟩);obtain⟨k,hk,rfl⟩:=List.mem_iff_getElem.1 hq;exact hI k hk (by omega)
 ·rintro z (rfl|⟨rfl,h⟩)
  ·exact aO (fun h=>by cases h)
  ·exact aO (fun _=>h)
theorem anU (p:List aS) (hp:p.length≤1000):bH (CR p) (fun _=>True):=by
 unfold CR;refine bl (fun _=>aO trivial) (fun _=>bl (fun _=>aO trivial) (fun _=>aH (MQ p hp) (fun b _=>bl (fun _=>aO trivial) (fun _=>aH (Q:=fun _=>True) ?_ (fun a _=>bl (fun _=>aO trivial) (fun _=>aO trivial))))));unfold GG;refine bl (fun _=>aO trivial) (fun _=>aH (MQ p hp) (fun b _=>bl (fun _=>aO trivial) (fun _=>aH (Q:=fun _=>True) ?_ (fun _ _=>aO trivial))));refine di p.length (fun q:Int×Int=>q.2) (fun _=>True) (fun x j _ hx hj=>?_) (fun x _ hx=>?_) trivial rfl (Nat.zero_le _)
 ·unfold zF;refine ei hx hj ?_;rw [hx];have te:0≤U ((j:Int)+1):=by rw [bK (by omega)];omega
  obtain⟨t1,t2⟩:=Ez te (show(0:Int)<((p.length:Nat):Int) by omega)
  exact aH (dg hj) (fun e _=>bl (fun _=>aH (fy t1 t2) (fun e1 _=>aO (.inl ⟨_,rfl,trivial,bK (by omega)⟩))) (fun h=>absurd (td h) (by omega)))
 ·unfold zF;exact ea hx trivial
theorem EA {α:Type} {xs:List α} {n:Int} (h0:0≤n) (h:n≤xs.length):bH (kJ xs n) (fun v=>v=xs.take n.toNat):=by
 unfold kJ;rw [decide_eq_true h0,decide_eq_true h];exact⟨_,rfl,rfl⟩
theorem Xw (p:List aS) (hp:p.length≤1000) (h0:p≠[]):bH (zK p) (fun v=>v.length≤p.length∧∀q∈v,q∈p):=by
 have nE:=List.length_pos_iff.2 h0;unfold zK;refine aH (Q:=fun v:List aS=>(1≤v.length∧v.length≤p.length)∧∀q∈v,q∈p) ?_ (fun v hv=>?_)
 ·refine di p.length (fun q:List aS×Int=>q.2) (fun x=>((x.1.length:Nat):Int)≤x.2∧(1≤x.2→1≤x.1.length)∧∀q∈x.1,q∈p) (fun x j hI hx hj=>?_) (fun x hI hx=>?_) ⟨Int.le_refl _,fun h=>absurd h (by decide),fun q hq=>by cases hq⟩ rfl (Nat.zero_le _)
  ·obtain⟨i1,i2,i3⟩:=hI;unfold zJ;refine ei hx hj (aH (Q:=fun l:List aS=>(1≤l.length∧((l.length:Nat):Int)≤x.2+1)∧∀q∈l,q∈p) ?_ (fun l hl=>aO (.inl ⟨_,rfl,⟨?_,fun _=>hl.1.1,hl.2⟩,?_⟩)))
   ·rw [hx] at i1⊢;refine aH (dg hj) ?_;rintro e rfl;refine aH (Q:=fun l:List aS=>l.length≤x.1.length∧∀q∈l,q∈p) ?_ (fun l hl=>aH (ny (by simp only [List.length_cons,List.length_nil];omega) (by simp only [List.length_cons,List.length_nil];omega)) ?_)
    ·refine p_ (step:=fun q=>zI p[j] q) (fun l:List aS=>l.length≤x.1.length∧∀q∈l,q∈p) (fun l=>l.length) (fun l:List aS=>l.length≤x.1.length∧∀q∈l,q∈p) (fun l hl=>?_) x.1 ⟨Nat.le_refl _,i3⟩;obtain⟨l1,l2⟩:=hl;unfold zI;by_cases h2:2≤l.length
     ·rw [decide_eq_true (by omega),cond_true,bu (n:=_ -2) (by omega) (by omega),bu (n:=_ -1) (by omega) (by omega)];obtain⟨a,a1,_⟩:=fy (xs:=l) (i:=((l.length:Nat):Int) -2) (by omega) (by omega);obtain⟨b,b1,_⟩:=fy (xs:=l) (i:=((l.length:Nat):Int) -1) (by omega) (by omega);obtain⟨c,c1,c2⟩:=EA (xs:=l) (n:=((l.length:Nat):Int) -1) (by omega) (by omega);rw [a1,aN,b1,aN,c1,aN];cases decide (CV a b p[j]≤0) with
      |false=>exact .inr ⟨_,rfl,l1,l2⟩
      |true=>
       refine .inl ⟨_,rfl,⟨?_,fun q hq=>l2 q ?_⟩,?_⟩
       ·rw [c2,List.length_take];omega
       ·rw [c2] at hq;exact List.mem_of_mem_take hq
       ·rw [c2,List.length_take];omega
     ·rw [decide_eq_false (by omega)];exact .inr ⟨_,rfl,l1,l2⟩
    ·rintro v rfl;refine aO ⟨⟨?_,?_⟩,fun q hq=>?_⟩
     ·rw [List.length_append,List.length_cons,List.length_nil];omega
     ·rw [List.length_append,List.length_cons,List.length_nil];have:=hl.1;omega
     ·rcases List.mem_append.1 hq with hq|hq
      ·exact hl.2 q hq
      ·rw [List.mem_singleton] at hq;rw [hq];exact List.getElem_mem hj
   ·dsimp only;rw [hx] at hl⊢;rw [bK (by omega)];have:=hl.1.2;omega
   ·dsimp only;rw [hx,bK (by omega)]
  ·unfold zJ;refine ea hx ⟨⟨hI.2.1 (by omega),by have:=hI.1;omega⟩,hI.2.2⟩
 ·obtain⟨⟨v1,v2⟩,v3⟩:=hv;rw [bu (by omega) (by omega)];refine aH (EA (by omega) (by omega)) ?_;rintro w rfl;exact aO ⟨by rw [List.length_take];omega,fun q hq=>v3 q (List.mem_of_mem_take hq)⟩
theorem anV (s:List aS) (hs:s.length≤1000):bH (CW s) (fun v=>v.length=s.length∧∀q∈v,q∈s):=by
 unfold CW;refine di 1000 (fun q:Int×Int×List aS=>q.1) (fun x=>(x.2.2.length=s.length∧∀q∈x.2.2,q∈s)∧x.2.1≤((s.length:Nat):Int) -1) (fun x j hI hx hj=>?_) (fun x hI hx=>?_) ⟨⟨rfl,fun q h=>h⟩,?_⟩ rfl (Nat.zero_le _)
 ·obtain⟨⟨i1,i2⟩,i3⟩:=hI;unfold zL;refine bl (fun h=>?_) (fun _=>aO (.inr ⟨_,rfl,i1,i2⟩));have h:=of_decide_eq_true h;rw [hx] at h⊢;refine aH (fy (xs:=x.2.2) (by omega) (by omega)) (fun e he=>aH (fy (xs:=x.2.2) (by omega) (by omega)) (fun e1 MR=>aH (fy (xs:=x.2.2) (by omega) (by omega)) (fun e2 _=>aH (fy (xs:=aU x.2.2 (j:Int) e) (by omega) (by rw [jh];omega)) (fun e3 _=>aO (.inl ⟨_,rfl,⟨⟨?_,fun q hq=>?_⟩,?_⟩,?_⟩)))))
  ·dsimp only;rw [jh,jh];exact i1
  ·rcases List.mem_or_eq_of_mem_set hq with hq|hq
   ·rcases List.mem_or_eq_of_mem_set hq with hq|hq
    ·exact i2 q hq
    ·rw [hq];exact i2 e he
   ·rw [hq];exact i2 e1 MR
  ·dsimp only;rw [bu (by omega) (by omega)];omega
  ·dsimp only;rw [bK (by omega)]
 ·unfold zL;rw [decide_eq_false (by have:=hI.2;omega)];exact aO ⟨_,rfl,hI.1⟩
 ·dsimp only;rw [bu (by omega) (by omega)];omega
theorem anW (s:List aS) (hs:s.length≤1000) (h0:s≠[]):bH (CS s) (fun v=>v≠[]∧v.length≤s.length∧∀q∈v,q∈s):=by
 have nE:=List.length_pos_iff.2 h0;unfold CS;refine bl (fun _=>aO ⟨h0,Nat.le_refl _,fun _ h=>h⟩) (fun h2=>?_);have h2:=of_decide_eq_false h2;refine aH (Q:=fun z=>(∃v,z=.inl v∧v≠[]∧v.length≤s.length∧∀q∈v,q∈s)∨z=.inr ()) ?_ ?_
 ·refine di s.length (fun q:Int=>q) (fun x=>1≤x) (fun x k h1 hx hk=>?_) (fun x _ hx=>?_) (j0:=1) (Int.le_refl 1) rfl (by omega)
  ·unfold zH;subst hx;refine ei rfl hk (aH (Q:=fun z=>(∃v:List aS,z=.inl (.inr (.inl v))∧v≠[]∧v.length≤s.length∧∀q∈v,q∈s)∨z=.inr ()) ?_ ?_)
   ·refine aH (dg hk) (fun e _=>?_);rw [bu (n:=(k:Int) -1) (by omega) (by omega)];refine aH (fy (xs:=s) (by omega) (by omega)) (fun e1 _=>bl (fun _=>?_) (fun _=>aO (.inr rfl)));rw [decide_eq_true (show(0:Int)≤k by omega),decide_eq_true (show(k:Int)<((s.length:Nat):Int) by omega),decide_eq_true (show(k:Int)≤((s.length:Nat):Int) by omega),decide_eq_true (Int.le_refl ((s.length:Nat):Int))]
    simp only [Bool.and_self,cond_true];refine aH (Q:=fun w:List aS×Int=>(w.1.length=s.length∧∀q∈w.1,q∈s)∧(k:Int)≤w.2∧w.2<((s.length:Nat):Int)) ?_ ?_
    ·refine di (s.length -k) (fun q:Int×Int×List aS=>q.2.1) (fun x=>(x.2.2.length=s.length∧∀q∈x.2.2,q∈s)∧(k:Int)≤x.1∧x.1≤(k:Int)+x.2.1 -1∧1≤x.2.1) (fun x j hI hx hj=>?_) (fun x hI hx=>?_) (j0:=1) ⟨⟨rfl,fun q h=>h⟩,Int.le_refl _,by show(k:Int)≤(k:Int)+1 -1;omega,Int.le_refl 1⟩ rfl (by omega)
     ·obtain⟨⟨i1,i2⟩,i3,i4,i5⟩:=hI;obtain⟨a,b,xs⟩:=x;dsimp only at i1 i2 i3 i4 i5 hx;subst hx;unfold zG;dsimp only;have hm:((((s.length:Nat):Int).toNat -(k:Int).toNat:Nat):Int)=((s.length -k:Nat):Int):=by omega
      rw [hm,decide_eq_true (show(j:Int)<((s.length -k:Nat):Int) by omega),cond_true,decide_eq_true (show(0:Int)≤k by omega),decide_eq_true (show(0:Int)≤j by omega),decide_eq_true (show(j:Int)<((s.length:Nat):Int) -(k:Int) by omega),bu (n:=(j:Int) -1) (by omega) (by omega),decide_eq_true (show(0:Int)≤(j:Int) -1 by omega),decide_eq_true (show(j:Int) -1<((s.length:Nat):Int) -(k:Int) by omega)]
      simp only [Bool.and_self,cond_true];refine aH (fy (xs:=xs) (by omega) (by omega)) (fun e2 _=>aH (fy (xs:=xs) (by omega) (by omega)) (fun e3 _=>bl (fun _=>aH (fy (xs:=xs) (by omega) (by omega)) (fun e4 EB=>aH (fy (xs:=xs) (by omega) (by omega)) (fun e5 _=>aO (.inl ⟨_,rfl,⟨⟨?_,fun q hq=>?_⟩,?_,?_,?_⟩,?_⟩)))) (fun _=>aO (.inl ⟨_,rfl,⟨⟨i1,i2⟩,i3,?_,?_⟩,?_⟩))))
      ·dsimp only;rw [jh];exact i1
      ·rcases List.mem_or_eq_of_mem_set hq with hq|hq
       ·exact i2 q hq
       ·rw [hq];exact i2 e4 EB
      all_goals dsimp only
      ·rw [bu (by omega) (by omega)];omega
      ·rw [bu (n:=a+1) (by omega) (by omega),bK (by omega)];omega
      ·rw [bK (by omega)];omega
      ·rw [bK (by omega)]
      ·rw [bK (by omega)];omega
      ·rw [bK (by omega)];omega
      ·rw [bK (by omega)]
     ·unfold zG;rw [decide_eq_false (by omega)];exact aO ⟨_,rfl,hI.1,hI.2.1,by have:=hI.2.2.1;dsimp only;omega⟩
    ·rintro⟨xs,a⟩ ⟨⟨i1,i2⟩,i3,i4⟩;dsimp only at i1 i2 i3 i4⊢;obtain⟨n,rfl⟩:=Int.eq_ofNat_of_zero_le (show 0≤a by omega)
     rw [i1,decide_eq_true (show(0:Int)≤n by omega),decide_eq_true (show(n:Int)<((s.length:Nat):Int) by omega),decide_eq_true (show(n:Int)≤((s.length:Nat):Int) by omega),decide_eq_true (Int.le_refl ((s.length:Nat):Int))]
     simp only [Bool.and_self,cond_true];have oy:n<s.length:=by omega
     rw [show((s.length:Nat):Int).toNat=s.length from rfl,show((n:Nat):Int).toNat=n from rfl,show Nat.ble (n+(s.length -n)) s.length=true from Nat.ble_eq_true_of_le (by omega),show Nat.blt 0 (s.length -n)=true from Nat.ble_eq_true_of_le (by omega)]
     simp only [Bool.and_self,cond_true];refine rS (aH (EA (by omega) ?_) ?_)
     ·unfold oP;simp;omega
     ·rintro w rfl
      have e:(oP (⟨0,0⟩:aS) xs n (s.length -n)).take ((n:Nat):Int).toNat=xs.take n:=by
       unfold oP;rw [show((n:Nat):Int).toNat=n from rfl,List.append_assoc,List.take_append_of_le_length (by simp;omega),List.take_take,Nat.min_self]
      rw [e];refine aO (.inl ⟨_,rfl,?_,?_,fun q hq=>i2 q (List.mem_of_mem_take hq)⟩)
      ·intro h;have:=congrArg List.length h;rw [List.length_take,List.length_nil] at this;omega
      ·rw [List.length_take];omega
   ·rintro z (⟨v,rfl,hv⟩|rfl)
    ·exact aO (.inr ⟨_,rfl,.inl ⟨v,rfl,hv⟩⟩)
    ·exact aO (.inl ⟨_,rfl,by rw [bK (by omega)];omega,bK (by omega)⟩)
  ·unfold zH;exact ea hx (.inr rfl)
 ·rintro z (⟨v,rfl,hv⟩|rfl)
  ·exact aO hv
  ·exact aO ⟨h0,Nat.le_refl _,fun _ h=>h⟩
theorem anX (xs:List aS) (h:xs.length≤1000):bH (C0 xs) (fun v=>v.length=xs.length∧∀q∈v,q∈xs):=by
 unfold C0;rw [VQ,decide_eq_true (by omega)];unfold Lo;exact aO ⟨List.length_mergeSort _,fun q hq=>List.mem_mergeSort.1 hq⟩
theorem HQ {α:Type} {P:α→Prop} {a b:Nat} (h:a=b) {o o':Option α} (k:bH o P):bH (bif Nat.beq a b then o else o') P:=by
 subst h;rw [Nat.beq_refl];exact k
theorem anY (p:List aS) (hp:p.length≤1000):bH (C1 p) (fun v=>v.length≤64∧∀q∈v,RP q):=by
 have hE:bH (some ([]:List aS)) (fun v=>v.length≤64∧∀q∈v,RP q):=aO ⟨Nat.zero_le _,fun q hq=>by cases hq⟩;unfold C1 GJ;refine bl (fun _=>hE) (fun h3=>bl (fun _=>hE) (fun Xx=>aH (MQ p hp) (fun b hb=>bl (fun _=>hE) (fun hr=>aH (xM (by omega) (by omega)) ?_))));have h3:=of_decide_eq_false h3;have Xx:=of_decide_eq_false Xx;have hR:∀q∈p,RP q:=hb (by simpa using hr)
 rintro pv rfl;refine aH (anX pv hp) (fun s hs=>HQ hs.1 (aH (anW s (by omega) (fun e=>by rw [e] at hs;have:=hs.1;simp at this;omega)) (fun c hc=>aH (Xw c (by omega) hc.1) (fun c1 vE=>aH (anV c (by omega)) (fun r AO=>HQ AO.1 (aH (Xw r (by omega) (fun e=>by rw [e] at AO;have:=AO.1;have:=List.length_pos_iff.2 hc.1;simp at*;omega)) (fun c2 HR=>aH (ny (by have:=vE.1;have:=HR.1;omega) (by have:=vE.1;have:=HR.1;omega)) ?_)))))));rintro l rfl;refine bl (fun _=>hE) (fun _=>aO ⟨?_,fun q hq=>hR q (hs.2 q (hc.2.2 q ?_))⟩)
 ·have:=vE.1;have:=HR.1;rw [List.length_append];omega
 ·rcases List.mem_append.1 hq with hq|hq
  ·exact vE.2 q hq
  ·exact AO.2 q (HR.2 q hq)
theorem anZ (p:List aS) (hp:p.length≤1000):bH (C2 p) (fun _=>True):=by
 unfold C2;refine bl (fun _=>aO trivial) (fun h0=>?_)
 have h0:0<p.length:=by
  have:((p.length:Nat):Int)≠0:=by simpa using h0
  omega
 have g:bH (aC p 0) (fun v=>v∈p):=fy (Int.le_refl 0) (by omega);refine aH g (fun _ _=>aH g (fun _ _=>aH g (fun _ _=>aH g (fun _ _=>aH (Q:=fun _=>True) ?_ (fun _ _=>aO trivial)))));refine di p.length (fun q:Int×aJ=>q.1) (fun _=>True) (fun x j _ hx hj=>?_) (fun x _ hx=>?_) trivial rfl (Nat.zero_le _)
 ·unfold zO;refine ei hx hj ?_;rw [hx];exact aH (dg hj) (fun e _=>aO (.inl ⟨_,rfl,trivial,bK (by omega)⟩))
 ·unfold zO;exact ea hx trivial
theorem Xy (a:Int) {b:Int} (hb:b≠0):bH (zP a b) (fun _=>True):=by
 unfold zP;rw [uP hb,cond_true,cond_true];exact bl (fun _=>aO trivial) (fun _=>aO trivial)
theorem Xz (y:Int) (r:aJ) (p:List aS) (hp:p.length≤1000) (hR:∀q∈p,RP q):bH (zR y r p) (fun _=>True):=by
 unfold zR;refine aH (Q:=fun _=>True) ?_ (fun _ _=>aO trivial);refine di p.length (fun q:Int×Int×Int=>q.2.2) (fun _=>True) (fun x j _ hx hj=>?_) (fun x _ hx=>?_) trivial rfl (Nat.zero_le _)
 ·unfold zQ;refine ei hx hj ?_;rw [hx];have te:0≤U ((j:Int)+1):=by rw [bK (by omega)];omega
  obtain⟨t1,t2⟩:=Ez te (show(0:Int)<((p.length:Nat):Int) by omega)
  refine aH (dg hj) ?_;rintro e rfl;have r1:=hR _ (List.getElem_mem hj);refine bl (fun _=>aH (fy t1 t2) (fun e1 MR=>?_)) (fun h=>absurd (td h) (by omega));have r2:=hR _ MR;obtain⟨_,a1,a2⟩:=r1;obtain⟨_,b1,b2⟩:=r2;refine rS (bl (fun h=>?_) (fun _=>rS (bl (fun h=>?_) (fun _=>aO (.inl ⟨_,rfl,trivial,bK (by omega)⟩)))))
  ·have bB:p[j].Y<e1.Y:=by
    by_cases q:p[j].Y<e1.Y
    ·exact q
    ·rw [decide_eq_false q] at h;cases h
   exact aH (Xy _ (by rw [bu (by omega) (by omega)];omega)) (fun _ _=>aO (.inl ⟨_,rfl,trivial,bK (by omega)⟩))
  ·have bB:e1.Y<p[j].Y:=by
    by_cases q:e1.Y<p[j].Y
    ·exact q
    ·rw [decide_eq_false q] at h;cases h
   exact aH (Xy _ (by rw [bu (by omega) (by omega)];omega)) (fun _ _=>aO (.inl ⟨_,rfl,trivial,bK (by omega)⟩))
 ·unfold zQ;exact ea hx trivial
theorem an0 (p:List aS) (lo hi:Int) (hp:p.length≤1000):bH (C3 p lo hi) (fun _=>True):=by
 unfold C3;refine aH (anY p hp) (fun h hh=>aH (anZ h (by have:=hh.1;omega)) (fun b _=>bl (fun _=>aO trivial) (fun _=>bl (fun _=>aO trivial) (fun _=>bl (fun _=>aO trivial) (fun _=>bl (fun _=>aO trivial) (fun _=>aH (Xz lo b h (by have:=hh.1;omega) hh.2) (fun _ _=>aH (Xz hi b h (by have:=hh.1;omega) hh.2) (fun _ _=>bl (fun _=>aO trivial) (fun _=>aO trivial)))))))))
def o8 (s:b7):Prop:=-60≤s.b6∧s.b6≤60
theorem an1:o8 ⟨0,[]⟩:=⟨by decide,by decide⟩
theorem XA {rowf:Int→Option Sp} (uW:∀r,-60≤r→r<60→bH (rowf r) (fun _=>True)) {step:Int×Int×Int×List Sp→Option ((Int×Int×Int×List Sp)⊕(Int×Int×List Sp))}
  (uX:∀gk vr s2 s3,step (gk,vr,s2,s3)=(bif(decide (vr<60)) then(β (rowf vr) (fun ov=>(bif(!(nS ov)) then(bif(gk==0) then(β (cK 16 s3 ([ov])) (fun l=>some (κ (((l.length:Nat):Int),U (vr+1),vr,l)))) else(β (cK 16 s3 ([ov])) (fun l1=>some (κ (((l1.length:Nat):Int),U (vr+1),s2,l1))))) else(bif(decide (0<gk)) then(β (cK 16 s3 ([(⟨0,0⟩:Sp)])) (fun l2=>some (κ (gk,U (vr+1),s2,l2)))) else some (κ (gk,U (vr+1),s2,s3)))))) else some (ι (gk,s2,s3)))):
  bH (β (bb step (0,-60,0,[])) (fun w1=>(β (kJ w1.2.2 w1.1) (fun l3=>some (⟨w1.2.1,l3⟩:b7))))) o8:=by
 refine aH (Q:=fun w:Int×Int×List Sp=>(0≤w.1∧w.1≤((w.2.2.length:Nat):Int))∧-60≤w.2.1∧w.2.1≤60) ?_ (fun w hw=>aH (EA hw.1.1 hw.1.2) (fun _ _=>aO hw.2));refine di 120 (fun q:Int×Int×Int×List Sp=>q.2.1+60) (fun x=>(0≤x.1∧x.1≤((x.2.2.2.length:Nat):Int))∧(((x.2.2.2.length:Nat):Int)≤x.2.1+60)∧-60≤x.2.2.1∧x.2.2.1≤60) (fun x j hI hx hj=>?_) (fun x hI hx=>?_) (j0:=0) ⟨⟨Int.le_refl _,Int.le_refl _⟩,Int.le_refl _,by decide,by decide⟩ rfl (Nat.zero_le _)
 ·obtain⟨u,vr,lo,rs⟩:=x;obtain⟨⟨i1,i2⟩,i3,i4⟩:=hI;dsimp only at i1 i2 i3 i4 hx;rw [uX,decide_eq_true (by omega),cond_true];have hw:U (vr+1)=vr+1:=bu (by omega) (by omega);have ha:∀e:Sp,bH (cK 16 rs [e]) (fun v=>v=rs++[e]):=fun e=>ny (by simp only [List.length_cons,List.length_nil];omega) (by simp only [List.length_cons,List.length_nil];omega)
  refine aH (uW vr (by omega) (by omega)) (fun ov _=>bl (fun _=>bl (fun _=>aH (ha ov) ?_) (fun _=>aH (ha ov) ?_)) (fun _=>bl (fun _=>aH (ha ⟨0,0⟩) ?_) (fun _=>aO (.inl ⟨_,rfl,⟨⟨i1,i2⟩,?_,i4⟩,?_⟩))))
  ·rintro l rfl;refine aO (.inl ⟨_,rfl,⟨⟨by dsimp only;omega,Int.le_refl _⟩,?_,?_⟩,?_⟩)
   ·dsimp only;rw [hw,List.length_append,List.length_cons,List.length_nil];omega
   ·dsimp only;omega
   ·dsimp only;rw [hw];omega
  ·rintro l rfl;refine aO (.inl ⟨_,rfl,⟨⟨by dsimp only;omega,Int.le_refl _⟩,?_,i4⟩,?_⟩)
   ·dsimp only;rw [hw,List.length_append,List.length_cons,List.length_nil];omega
   ·dsimp only;rw [hw];omega
  ·rintro l rfl;refine aO (.inl ⟨_,rfl,⟨⟨i1,?_⟩,?_,i4⟩,?_⟩)
   ·dsimp only;rw [List.length_append];omega
   ·dsimp only;rw [hw,List.length_append,List.length_cons,List.length_nil];omega
   ·dsimp only;rw [hw];omega
  ·dsimp only;rw [hw];omega
  ·dsimp only;rw [hw];omega
 ·obtain⟨u,vr,lo,rs⟩:=x;dsimp only at hx;rw [uX,decide_eq_false (by omega)];exact aO ⟨_,rfl,hI.1,hI.2.2⟩
theorem an2 (p:List aS) (hp:p.length≤1000):bH (C5 p) (fun v=>o8 v.1):=by
 have h0:o8 ⟨0,[]⟩:=⟨by decide,by decide⟩;unfold C5;refine aH (anU p hp) (fun c _=>bl (fun _=>aO h0) (fun _=>aH (Q:=o8) ?_ (fun b hb=>bl (fun _=>aO h0) (fun _=>aO hb))));unfold GN;refine XA (rowf:=fun r=>C4 r p) (fun r _ _=>?_) (fun _ _ _ _=>rfl);unfold C4;exact rS (aH (an0 p _ _ hp) (fun _ _=>aO trivial))
theorem MS (s:b7) (h:o8 s):bH (qG s) mu:=by
 obtain⟨c,c1,c2⟩:=WD s ⟨by have:=h.1;omega,by have:=h.2;omega⟩;unfold qG;rw [Hv];refine aH (Q:=fun e=>e=0→mu s) ⟨c,c1,c2⟩ (fun e he=>bl (fun _=>aO ⟨by simp,⟨by decide,by decide⟩,fun e h=>by cases h⟩) (fun h0=>aO (he (td h0))))
theorem XB {s:b7} (h:mu s) {r:Int} (hr:-60≤r∧r<60):bH (zV s r) (fun _=>True):=by
 have h1:=h.low;have h2:=h.len;unfold zV;rw [bu (n:=s.b6+_) (by omega) (by omega)];refine bl (fun _=>aO trivial) (fun a=>bl (fun _=>aO trivial) (fun b=>?_));have a:=of_decide_eq_false a;have b:=of_decide_eq_false b;rw [bu (by omega) (by omega)];exact aH (fy (by omega) (by omega)) (fun _ _=>aO trivial)
theorem an3 {a b:b7} (ha:o8 a) (hb:o8 b):bH (C9 a b) o8:=by
 unfold C9;refine aH (MS a ha) (fun a' ha'=>aH (MS b hb) (fun b' gH=>aH (Q:=o8) ?_ (fun v hv=>aO hv)));unfold GQ;refine XA (rowf:=fun r=>C8 r a' b') (fun r h1 h2=>?_) (fun _ _ _ _=>rfl);unfold C8;exact aH (XB ha' ⟨h1,h2⟩) (fun _ _=>aH (XB gH ⟨h1,h2⟩) (fun _ _=>rS (aO trivial)))
theorem an5 (r:cw) (lim most:Int) (hr:r.Read.length≤40):bH (C6 r lim most) (fun v=>o8 v.1):=by
 unfold C6;exact aH (anQ r lim hr) (fun c hc=>aH (anT c most hc) (fun p hp=>bl (fun _=>aO an1) (fun _=>aH (an2 p.1 (by omega)) (fun o ho=>aO ho))))
def Lz (zs:List Int) (l:List aV):Prop:=l.length+1=zs.length∧∀(k:Nat) (h:k<l.length) (h1:k+1<zs.length),l[k].aT=U (zs[k+1] -zs[k])
theorem an6 {zs:List Int} {l m:List aV} (h1:Lz zs l) (h2:Lz zs m):bA l=bA m:=by
 unfold bA;refine congrArg List.sum (List.ext_getElem (by have:=h1.1;have:=h2.1;simp;omega) fun k k1 k2=>?_);rw [List.length_map] at k1 k2;have:=h1.1;rw [List.getElem_map,List.getElem_map,h1.2 k k1 (by omega),h2.2 k k2 (by omega)]
theorem an7 (s:eA) (lim most:Int) (h:A5 s):bH (C_ s lim most) (fun v=>lY v.1∧(v.2=0→Lz (s.bM.map fun r=>r.Z) v.1)):=by
 have hE:∀e:Int,e≠0→bH (some (([]:List aV),e)) (fun v=>lY v.1∧(v.2=0→Lz (s.bM.map fun r=>r.Z) v.1)):=fun e he=>aO ⟨(fun e h=>by cases h),fun h=>absurd h he⟩
 have h1:=h.rings;unfold C_;refine aH (Xs s) (fun c hc=>bl (fun h=>hE c (by simpa using h)) (fun h0=>aH (rT (by omega) (by omega)) ?_));have hl:=(hc (td h0)).1;rintro m rfl;refine aH (Q:=fun z=>(∃e:Int,e≠0∧z=.inl (([]:List aV),e))∨∃l:List b7,z=.inr l∧l.length=s.bM.length∧∀x∈l,o8 x) ?_ ?_
 ·refine di s.bM.length (fun q:Int×List b7=>q.1) (fun x=>x.2.length=s.bM.length∧∀q∈x.2,o8 q) (fun x j hI hx hj=>?_) (fun x hI hx=>?_) ⟨by simp,fun q hq=>by rw [List.mem_replicate] at hq;rw [hq.2];exact⟨by decide,by decide⟩⟩ rfl (Nat.zero_le _)
  ·obtain⟨i1,i2⟩:=hI;unfold zW;refine ei hx hj ?_;rw [hx];refine aH (dg hj) ?_;rintro e rfl;refine aH (an5 _ lim most (h.reads _ (List.getElem_mem hj))) (fun sv HS=>bl (fun _=>aO (.inr ⟨_,rfl,.inl ⟨30,by decide,rfl⟩⟩)) (fun _=>aH (dg (by omega)) (fun _ _=>aO (.inl ⟨_,rfl,⟨?_,fun q hq=>?_⟩,bK (by omega)⟩))))
   ·dsimp only;rw [jh];exact i1
   ·rcases List.mem_or_eq_of_mem_set hq with hq|hq
    ·exact i2 q hq
    ·rw [hq];exact HS
  ·unfold zW;exact ea hx (.inr ⟨_,rfl,hI⟩)
 ·rintro z (⟨e,he,rfl⟩|⟨l,rfl,l1,l2⟩)
  ·exact hE e he
  ·rw [Sum.elim_inr,show U (((s.bM.length:Nat):Int) -1)=((s.bM.length -1:Nat):Int) by rw [bu (by omega) (by omega)];omega]
   refine aH (rT (by omega) (by omega)) ?_;rintro m1 rfl;refine aH (Q:=fun z=>(∃e:Int,e≠0∧z=.inl (([]:List aV),e))∨∃l:List aV,z=.inr l∧lY l∧Lz (s.bM.map fun r=>r.Z) l) ?_ ?_
   ·refine di (s.bM.length -1) (fun q:Int×List aV=>q.1) (fun x=>(x.2.length=s.bM.length -1∧∀(k:Nat) (h:k<x.2.length) (h1:k+1<s.bM.length),(k:Int)<x.1→x.2[k].aT=U (s.bM[k+1].Z -s.bM[k].Z))∧lY x.2) (fun x j hI hx hj=>?_) (fun x hI hx=>?_) ⟨⟨by simp,fun k _ _ h=>absurd h (by dsimp only;omega)⟩,fun q hq=>by rw [List.mem_replicate] at hq;rw [hq.2];exact⟨⟨by decide,by decide⟩,⟨by decide,by decide⟩⟩⟩ rfl (Nat.zero_le _)
    ·obtain⟨⟨i1,i3⟩,i2⟩:=hI;unfold zX;refine ei hx (by rw [List.length_replicate];exact hj) ?_;rw [hx,bK (by omega)];refine aH (dg (by omega)) ?_;rintro e2 rfl;refine aH (dg (show j+1<l.length by omega)) ?_
     rintro e3 rfl;refine aH (an3 (l2 _ (List.getElem_mem _)) (l2 _ (List.getElem_mem _))) (fun mv XC=>bl (fun _=>aO (.inr ⟨_,rfl,.inl ⟨30,by decide,rfl⟩⟩)) (fun _=>aH (dg (show j+1<s.bM.length by omega)) (fun e4 EB=>aH (dg (show j<s.bM.length by omega)) (fun e5 he5=>aH (dg (by omega)) (fun e6 _=>aO (.inl ⟨_,rfl,⟨⟨?_,fun k k1 k2 bB=>?_⟩,fun q hq=>?_⟩,rfl⟩))))))
     ·dsimp only;rw [jh];exact i1
     ·dsimp only at k1 bB⊢;rw [HP];by_cases e:j=k
      ·subst e;rw [if_pos rfl,EB,he5]
      ·rw [if_neg e];exact i3 k _ k2 (by omega)
     ·rcases List.mem_or_eq_of_mem_set hq with hq|hq
      ·exact i2 q hq
      ·rw [hq];exact⟨⟨by have:=XC.1;dsimp only;omega,by have:=XC.2;dsimp only;omega⟩,ahy _⟩
    ·unfold zX;rw [List.length_replicate];have i1:=hI.1.1
     exact ea hx (.inr ⟨_,rfl,hI.2,by rw [List.length_map];omega,fun k k1 k2=>by
      rw [List.getElem_map,List.getElem_map];exact hI.1.2 k k1 _ (by omega)⟩)
   ·rintro z (⟨e,he,rfl⟩|⟨l',rfl,va,hz⟩)
    ·exact hE e he
    ·exact aO ⟨va,fun _=>hz⟩
theorem an9 (s:eA) (q lim most:Int) (h:A5 s):bH (lU s q lim most) (fun v=>lY v.1∧v.2.1.length≤70∧(v.2.2≠0→v.1=[])∧(v.2.2=0→v.2.1.length=s.dm.length∧Lz (s.bM.map fun r=>r.Z) v.1)):=by
 unfold lU zk;refine aH (anP s q h) (fun tv rU=>aH (an7 tv lim most rU.1) (fun bv xN=>aH (xM (by have:=rU.1.A4;omega) (by have:=rU.1.A4;omega)) ?_));rintro dv rfl;refine rS (aO ?_);unfold GR;cases hb:bv.2!=0 with
 |true=>exact⟨fun e h=>(by cases h),Nat.zero_le _,fun _=>rfl,fun h=>by rw [show bv.2=0 from h] at hb;cases hb⟩
 |false=>exact⟨xN.1,rU.1.A4,fun h=>absurd (td hb) h,fun _=>⟨rU.2.1,rU.2.2▸xN.2 (td hb)⟩⟩
theorem HT (n:Int):U n=(n+9223372036854775808)%18446744073709551616 -9223372036854775808:=by
 show IntKind.i64.wrap n=_
 rw [JW];split<;>omega
theorem MT {a b:Int}:U a=U b↔(a -b)%18446744073709551616=0:=by
 rw [HT,HT];omega
theorem eZ (a:Int):U (U a)=U a:=by
 rw [HT,HT];omega
theorem jF {a b c d:Int} (h:U a=U b) (k:U c=U d):U (a+c)=U (b+d):=by
 rw [MT] at*
 omega
theorem xO {a b c d:Int} (h:U a=U b) (k:U c=U d):U (a -c)=U (b -d):=by
 rw [MT] at*
 omega
theorem EC (c:Int) {a b:Int} (h:U a=U b):U (c*a)=U (c*b):=by
 rw [MT] at*
 obtain⟨k,hk⟩:=Int.dvd_of_emod_eq_zero h;rw [←Int.mul_sub,hk,Int.mul_left_comm];exact Int.mul_emod_right _ _
theorem ED (a b:de):gx iH a b=true↔a=b:=by
 show(a.fS==b.fS&&(a.At==b.At&&true))=true↔_
 obtain⟨a1,a2⟩:=a;obtain⟨b1,b2⟩:=b;simp
structure qV (x:cT):Prop where
 len:0≤x.aT∧x.aT≤2000
 kerf:0≤x.bj∧x.bj≤20
 XD:1≤x.dq∧x.dq≤2000
 sl:x.cY.length≤32
 size:∀(i:Nat) (h:i<x.cY.length),1≤x.cY[i]∧x.cY[i]≤2000
 gl:x.eT.length=x.cY.length
 row:∀(i:Nat) (h:i<x.cY.length) (h':i<x.eT.length),((x.eT[i].length:Nat):Int)=max 0 (x.aT -x.cY[i]+1)
 cl:((x.dF.length:Nat):Int)=x.aT
 dl:((x.cO.length:Nat):Int)=x.aT
structure EE (x:cT):Prop where
 s:x.cY.length≤1000000
 g:x.eT.length≤1000000
 r:∀e∈x.eT,e.length≤1000000
 c:x.dF.length≤1000000
 d:x.cO.length≤1000000
theorem ja {n:Int} {P:Prop} (h:n≠0):bH (some n) (fun e=>e=0→P):=aO (fun e=>absurd e h)
theorem an_ {x:cT} (h:EE x):bH (DF x) (fun e=>e=0→(0≤x.aT∧x.aT≤2000)∧(0≤x.bj∧x.bj≤20)∧(1≤x.dq∧x.dq≤2000)∧x.cY.length≤32∧∀(i:Nat) (hi:i<x.cY.length),1≤x.cY[i]∧x.cY[i]≤2000):=by
 have hs:=h.s;unfold DF;refine bl (fun _=>ja (by decide)) (fun h1=>bl (fun _=>ja (by decide)) (fun h2=>bl (fun _=>ja (by decide)) (fun h3=>bl (fun _=>ja (by decide)) (fun h4=>bl (fun _=>ja (by decide)) (fun h5=>bl (fun _=>ja (by decide)) (fun h6=>bl (fun _=>ja (by decide)) (fun h7=>aH (Q:=fun z=>z=.inl 9∨(z=.inr ()∧∀(i:Nat) (hi:i<x.cY.length),1≤x.cY[i]∧x.cY[i]≤2000)) ?_ ?_)))))))
 ·refine di x.cY.length (fun q:Int=>q) (fun v=>∀(i:Nat) (hi:i<x.cY.length),(i:Int)<v→1≤x.cY[i]∧x.cY[i]≤2000) (fun v j hI hx hj=>?_) (fun v hI hx=>?_) (fun i _ h=>absurd h (by omega)) rfl (Nat.zero_le _)
  ·unfold Av;subst hx;refine ei rfl hj (aH (dg hj) ?_);rintro e rfl;refine bl (fun _=>aO (.inr ⟨_,rfl,.inl rfl⟩)) (fun a1=>bl (fun _=>aO (.inr ⟨_,rfl,.inl rfl⟩)) (fun a2=>aO (.inl ⟨_,rfl,?_,bK (by omega)⟩)));have a1:=of_decide_eq_false a1;have a2:=of_decide_eq_false a2;rw [bK (by omega)];intro k hk bB;by_cases e:k=j
   ·subst e;omega
   ·exact hI k hk (by omega)
  ·unfold Av;exact ea hx (.inr ⟨rfl,fun i hi=>hI i hi (by omega)⟩)
 ·have h1:=of_decide_eq_false h1;have h2:=of_decide_eq_false h2;have h3:=of_decide_eq_false h3;have h4:=of_decide_eq_false h4;have h5:=of_decide_eq_false h5;have h6:=of_decide_eq_false h6;have h7:=of_decide_eq_false h7;rintro z (rfl|⟨rfl,hz⟩)
  ·exact ja (by decide)
  ·exact aO fun _=>⟨by omega,by omega,by omega,by omega,hz⟩
theorem XE {L:List (List Int)} (h1:L.length≤1000000) (h2:∀e∈L,e.length≤1000000):bH (Ay L) (fun _=>True):=by
 unfold Ay;refine aH (Q:=fun _=>True) ?_ (fun z _=>xL (fun _ _=>aO trivial) (fun _ _=>aO trivial));refine di L.length (fun q:Int=>q) (fun _=>True) (fun v j _ hx hj=>?_) (fun v _ hx=>?_) trivial rfl (Nat.zero_le _)
 ·unfold Ax;subst hx;refine ei rfl hj (aH (Q:=fun z=>z=.inl (.inr (.inl false))∨z=.inr ()) (aH (dg hj) ?_) ?_)
  ·rintro e rfl;have he:=h2 _ (List.getElem_mem hj);refine di L[j].length (fun q:Int=>q) (fun _=>True) (fun v k _ hx hk=>?_) (fun v _ hx=>?_) trivial rfl (Nat.zero_le _)
   ·unfold Aw;subst hx;exact ei rfl hk (aH (dg hk) (fun _ _=>bl (fun _=>aO (.inr ⟨_,rfl,.inl rfl⟩)) (fun _=>bl (fun _=>aO (.inr ⟨_,rfl,.inl rfl⟩)) (fun _=>aO (.inl ⟨_,rfl,trivial,bK (by omega)⟩)))))
   ·unfold Aw;exact ea hx (.inr rfl)
  ·rintro z (rfl|rfl)
   ·exact aO (.inr ⟨_,rfl,trivial⟩)
   ·exact aO (.inl ⟨_,rfl,trivial,bK (by omega)⟩)
 ·unfold Ax;exact ea hx trivial
theorem ke {a b:Int} (h:(a !=b)=false):a=b:=by simpa using h
theorem an' {x:cT} (h:EE x):bH (DH x) (fun e=>e=0→qV x):=by
 have hg:=h.g;unfold DH;refine aH (an_ h) (fun m hm=>bl (fun e=>ja (by simpa using e)) (fun m0=>bl (fun _=>ja (by decide)) (fun h1=>bl (fun _=>ja (by decide)) (fun h2=>bl (fun _=>ja (by decide)) (fun h3=>?_)))));obtain⟨m1,m2,m3,m4,m5⟩:=hm (ke m0);have h1:x.eT.length=x.cY.length:=by have:=ke h1;omega
 have h2:=ke h2;have h3:=ke h3;refine aH (Q:=fun z=>z=.inl 19∨(z=.inr ()∧∀(i:Nat) (h:i<x.cY.length) (h':i<x.eT.length),((x.eT[i].length:Nat):Int)=max 0 (x.aT -x.cY[i]+1))) ?_ ?_
 ·refine di x.eT.length (fun q:Int=>q) (fun v=>∀(i:Nat) (h:i<x.cY.length) (h':i<x.eT.length),(i:Int)<v→((x.eT[i].length:Nat):Int)=max 0 (x.aT -x.cY[i]+1)) (fun v j hI hx hj=>?_) (fun v hI hx=>?_) (fun i _ _ h=>absurd h (by omega)) rfl (Nat.zero_le _)
  ·unfold Az;subst hx;refine ei rfl hj (aH (dg hj) ?_);rintro e rfl;refine aH (dg (show j<x.cY.length by omega)) ?_
   rintro e rfl;refine bl (fun _=>aO (.inr ⟨_,rfl,.inl rfl⟩)) (fun a1=>aO (.inl ⟨_,rfl,?_,bK (by omega)⟩));have a1:=ke a1;have dj:=m5 j (by omega);unfold DG at a1;rw [bu (n:=x.aT -_) (by omega) (by omega),bu (by omega) (by omega)] at a1;rw [bK (by omega)];intro k hk gM bB;by_cases e:k=j
   ·subst e;exact a1
   ·exact hI k hk gM (by omega)
  ·unfold Az;exact ea hx (.inr ⟨rfl,fun i a b=>hI i a b (by omega)⟩)
 ·rintro z (rfl|⟨rfl,hz⟩)
  ·exact ja (by decide)
  ·refine aH (XE hg h.r) (fun _ _=>bl (fun _=>ja (by decide)) (fun _=>aH (XE (L:=[x.dF,x.cO]) (by simp) (fun e he=>?_)) (fun _ _=>bl (fun _=>ja (by decide)) (fun _=>aO fun _=>⟨m1,m2,m3,m4,m5,h1,hz,h2,h3⟩))));have:=h.c;have:=h.d;rcases List.mem_cons.1 he with rfl|he
   ·omega
   ·rw [List.mem_singleton] at he;subst he;omega
def pre (l:List Int) (k:Nat):Int:=(l.take k).sum
theorem XF {l:List Int} {k:Nat} (h:k<l.length):pre l (k+1)=pre l k+l[k]:=by
 unfold pre;rw [List.take_succ_eq_append_getElem h,List.sum_append];simp
theorem XG (l:List Int) (h:l.length≤2000):bH (AB l) (fun v=>v.length=l.length+1∧∀(k:Nat) (hk:k<v.length),v[k]=U (pre l k)):=by
 unfold AB;rw [bK (by omega)];refine aH (rT (by omega) (by omega)) ?_;rintro m rfl;refine aH (Q:=fun v:List Int=>v.length=l.length+1∧∀(k:Nat) (hk:k<v.length),v[k]=U (pre l k)) ?_ (fun v hv=>aO hv);refine di l.length (fun q:Int×List Int=>q.1) (fun q=>q.2.length=l.length+1∧∀(k:Nat) (hk:k<q.2.length),(k:Int)≤q.1→q.2[k]=U (pre l k)) (fun q j hI hx hj=>?_) (fun q hI hx=>?_) ⟨by simp,fun k hk hl=>?_⟩ rfl (Nat.zero_le _)
 ·obtain⟨v,xs⟩:=q;obtain⟨i1,i2⟩:=hI;dsimp only at i1 i2 hx;subst hx;unfold AA;refine ei rfl hj (aH (dg hj) ?_);rintro e rfl;refine aH (dg (show j<xs.length by omega)) ?_
  rintro e rfl;rw [bK (by omega)];refine aH (dg (show j+1<xs.length by omega)) (fun _ _=>aO (.inl ⟨_,rfl,⟨by dsimp only;rw [jh];exact i1,fun k hk bB=>?_⟩,rfl⟩))
  dsimp only at hk bB⊢;rw [HP];by_cases e:j+1=k
  ·rw [if_pos e];subst e;rw [i2 j (by omega) (by omega),XF hj];exact jF (eZ _) rfl
  ·rw [if_neg e];exact i2 k _ (by omega)
 ·obtain⟨v,xs⟩:=q;unfold AA;refine ea hx ⟨hI.1,fun k hk=>hI.2 k hk ?_⟩;dsimp only at hx⊢;have:=hI.1;dsimp only at this;omega
 ·have e:k=0:=by
   dsimp only at hl;omega
  subst e;dsimp only;rw [List.getElem_replicate];rfl
def CH (x:cT) (k:Int):Int:=pre x.dF k.toNat
def DU (x:cT) (k:Int):Int:=pre x.cO k.toNat
def EF (x:cT) (c:de):Int:=(aC x.cY c.fS).getD 0
def o9 (x:cT) (c:de):Int:=(aC ((aC x.eT c.fS).getD []) c.At).getD 0
def dG (x:cT) (c:de):Int:=c.At+EF x c
def MU:de:=⟨-1,-1⟩
structure o_ (x:cT) (c:de):Prop where
 s0:0≤c.fS∧c.fS<x.cY.length
 a0:0≤c.At
 fit:dG x c≤x.aT
 pos:c.At+1≤dG x c
 A6:0≤o9 x c
def gG (x:cT) (e:Int):Int:=min (e+x.bj) x.aT
def tf (x:cT) (V:Int→Int) (e:Int):Int:=if e=x.aT then 0 else DU x (gG x e) -DU x e+V (gG x e)
def lead (x:cT) (p a:Int):Int:=if a=p then 0 else CH x (a -x.bj) -CH x p+(DU x a -DU x (a -x.bj))
def VE (E:List b9) (q:Int):Int:=((aC E q).map fun e=>e.gJ).getD 0
def qW (x:cT) (p a:Int):Prop:=a=p∨p+x.bj+1≤a
def n_ (x:cT) (E:List b9) (p:Int) (e:b9):Prop:=
 (e.piece=MU∧U e.gJ=U (CH x x.aT -CH x p))∨(o_ x e.piece∧qW x p e.piece.At∧U e.gJ=U (lead x p e.piece.At+(o9 x e.piece+tf x (VE E) (dG x e.piece))))
def pU (x:cT) (E:List b9) (p:Int) (e:b9):Prop:=
 e.piece=MU∨(o_ x e.piece∧e.piece.At=p∧U e.gJ=U (o9 x e.piece+tf x (VE E) (dG x e.piece)))
theorem aoa {x:cT} {c:de} (h:o_ x c):c≠MU:=fun e=>by
 have:=h.a0;rw [e] at this;exact absurd this (by decide)
theorem aob {E:List b9} {p q:Int} {e:b9} (hp:0≤p) (h:q≠p):VE (aU E p e) q=VE E q:=by
 unfold VE;rw [Ew hp h]
theorem A7 {E:List b9} {q:Int} {e:b9} (h:aC E q=some e):VE E q=e.gJ:=by
 unfold VE;rw [h];rfl
theorem XH {x:cT} {E:List b9} {p a:Int} {e:b9} (hk:0≤x.bj) (hp:0≤p) (h1:p<a) (h2:a≤x.aT):tf x (VE (aU E p e)) a=tf x (VE E) a:=by
 unfold tf;by_cases h:a=x.aT
 ·rw [if_pos h,if_pos h]
 ·rw [if_neg h,if_neg h,aob hp (by unfold gG;omega)]
theorem XI {x:cT} {E:List b9} {p q:Int} {e a:b9} (hk:0≤x.bj) (hp:0≤p) (hq:p≤q) (h:n_ x E q a):n_ x (aU E p e) q a:=by
 rcases h with h|⟨h1,h2,h3⟩
 ·exact .inl h
 ·refine .inr ⟨h1,h2,?_⟩;have:=h1.pos;have:=h1.fit;have:q≤a.piece.At:=by unfold qW at h2;omega
  rw [XH hk hp (by omega) (by omega)];exact h3
theorem XJ {x:cT} {E:List b9} {p q:Int} {e a:b9} (hk:0≤x.bj) (hp:0≤p) (hq:p≤q) (h:pU x E q a):pU x (aU E p e) q a:=by
 rcases h with h|⟨h1,h2,h3⟩
 ·exact .inl h
 ·refine .inr ⟨h1,h2,?_⟩;have:=h1.pos;have:=h1.fit;rw [XH hk hp (by omega) (by omega)];exact h3
theorem xP {α:Type} {E:List α} {n q:Int} (hE:((E.length:Nat):Int)=n+1) (h0:0≤q) (h1:q≤n):bH (aC E q) (fun e=>aC E q=some e):=by
 obtain⟨j,rfl⟩:=Int.eq_ofNat_of_zero_le h0;exact⟨_,cQ (by omega),cQ (by omega)⟩
theorem XK {x:cT} (hx:qV x) {e:Int} (h0:0≤e) (h1:e≤x.aT):pQ x e=if e=x.aT then-1 else gG x e:=by
 have:=hx.len;have:=hx.kerf;unfold pQ gG;by_cases h:e=x.aT
 ·rw [show(e==x.aT)=true by simp [h],if_pos h]
  rfl
 ·rw [show(e==x.aT)=false by simp [h],if_neg h,cond_false,bu (by omega) (by omega)]
theorem aoc {x:cT} (hx:qV x) {E:List b9} (hE:((E.length:Nat):Int)=x.aT+1) {p:Int} (hp:0≤p∧p≤x.aT) {du:List Int} (hd:∀k,0≤k→k≤x.aT→aC du k=some (U (DU x k))):bH (AF x p du E) (pU x E p):=by
 have hl:=hx.len;have xQ:=hx.kerf;have B4:=hx.gl;unfold AF;refine aH (Q:=pU x E p) ?_ (fun v hv=>aO hv);refine di x.cY.length (fun q:Int×b9=>q.1) (fun q=>pU x E p q.2) (fun q j hI hq hj=>?_) (fun q hI hq=>?_) (.inl rfl) rfl (Nat.zero_le _)
 ·obtain⟨v,b⟩:=q;dsimp only at hI hq;subst hq;unfold AE;have hs:=hx.size j hj;have yk:=hx.sl;have nx:U ((j:Int)+1)=((j+1:Nat):Int):=bK (by omega);have go:∀c,pU x E p c→bH (some (κ (U ((j:Int)+1),c)):Option ((Int×b9)⊕b9)) (fun z=>(∃x':Int×b9,z=.inl x'∧pU x E p x'.2∧x'.1=((j+1:Nat):Int))∨∃y,z=.inr y∧pU x E p y):=fun c h=>aO (.inl ⟨_,rfl,h,nx⟩)
  have eK:=go b hI;refine ei rfl hj (aH (dg hj) ?_);rintro e rfl;rw [bu (n:=p+x.cY[j]) (by omega) (by omega)];refine bl (fun _=>eK) (fun hf=>?_);have hf:=of_decide_eq_false hf;have qS:j<x.eT.length:=by omega
  have uW:=hx.row j hj qS;obtain⟨k,rfl⟩:=Int.eq_ofNat_of_zero_le hp.1;have hk:k<x.eT[j].length:=by omega
  rw [cQ qS,aN,cQ hk,aN];refine bl (fun _=>eK) (fun hg=>?_);have hg:=of_decide_eq_false hg;simp only [aN];rw [cQ hk,aN,XK hx (by omega) (by omega)];have e1:EF x ⟨(j:Int),(k:Int)⟩=x.cY[j]:=by unfold EF;rw [cQ hj];rfl
  have e2:o9 x ⟨(j:Int),(k:Int)⟩=x.eT[j][k]:=by unfold o9;rw [cQ qS];dsimp only [Option.getD_some];rw [cQ hk];rfl
  have e3:dG x ⟨(j:Int),(k:Int)⟩=(k:Int)+x.cY[j]:=by unfold dG;rw [e1]
  have pc:o_ x ⟨(j:Int),(k:Int)⟩:=⟨⟨by dsimp only;omega,by dsimp only;omega⟩,by dsimp only;omega,by rw [e3];omega,by rw [e3];dsimp only;omega,by rw [e2];omega⟩;refine aH (Q:=fun c:b9=>pU x E (k:Int) c) ?_ (fun c hc=>bl (fun _=>go c hc) (fun _=>bl (fun _=>go c hc) (fun _=>eK)));by_cases tU:(k:Int)+x.cY[j]=x.aT
  ·rw [if_pos tU];refine aO (.inr ⟨pc,rfl,?_⟩);dsimp only;rw [e2,e3];unfold tf;rw [if_pos tU,Int.add_zero]
  ·rw [if_neg tU,decide_eq_true (show(0:Int)≤gG x _ by unfold gG;omega),cond_true,hd _ (by unfold gG;omega) (by unfold gG;omega),aN,hd _ (by omega) (by omega),aN]
   refine aH (xP hE (show(0:Int)≤gG x ((k:Int)+x.cY[j]) by unfold gG;omega) (by unfold gG;omega)) (fun e he=>aO (.inr ⟨pc,rfl,?_⟩))
   dsimp only;rw [e2,e3];unfold tf;rw [if_neg tU,A7 he,eZ];exact jF rfl ((eZ _).trans (jF ((eZ _).trans (xO (eZ _) (eZ _))) rfl))
 ·unfold AE;exact ea hq hI
theorem aod {x:cT} (hx:qV x) {E S:List b9} {p:Int} {s:b9} (hp:0≤p∧p≤x.aT) (hS:((S.length:Nat):Int)=x.aT+1) (hs:∀q,p<q→q≤x.aT→∀e,aC S q=some e→pU x E q e) {ch du:List Int} (hc:∀k,0≤k→k≤x.aT→aC ch k=some (U (CH x k))) (hd:∀k,0≤k→k≤x.aT→aC du k=some (U (DU x k))) {b:b9} (hb:n_ x E p b):
  bH (bb (fun q:Int×b9=>uE x ch du p S s q.1 q.2) (U (U (p+x.dq)+x.bj),b)) (n_ x E p):=by
 have hl:=hx.len;have xQ:=hx.kerf;have MV:=hx.XD;rw [bu (n:=p+x.dq) (by omega) (by omega),bu (by omega) (by omega)];refine p_ (step:=fun q:Int×b9=>uE x ch du p S s q.1 q.2) (fun q=>p+x.dq+x.bj≤q.1∧q.1≤10000∧n_ x E p q.2) (fun q=>(x.aT+1 -q.1).toNat) (n_ x E p) (fun q hq=>?_) _ ⟨Int.le_refl _,by dsimp only;omega,hb⟩;obtain⟨a,c⟩:=q;obtain⟨q1,q2,q3⟩:=hq;dsimp only at q1 q2 q3;unfold uE;dsimp only;by_cases hle:a≤x.aT
 ·rw [decide_eq_true hle,cond_true,bu (n:=a -x.bj) (by omega) (by omega)];obtain⟨e,he,_⟩:=xP hS (show 0≤a by omega) hle
  rw [Ew hp.1 (show a≠p by omega),he,aN,hc _ (by omega) (by omega),aN,hc _ (by omega) (by omega),aN,hd _ (by omega) (by omega),aN,hd _ (by omega) (by omega),aN,bu (n:=a+x.dq) (by omega) (by omega)]
  have eK:∃x':Int×b9,(some (κ (a+x.dq,c)):Option ((Int×b9)⊕b9))=some (.inl x')∧(p+x.dq+x.bj≤x'.1∧x'.1≤10000∧n_ x E p x'.2)∧(x.aT+1 -x'.1).toNat<(x.aT+1 -a).toNat:=⟨_,rfl,⟨by dsimp only;omega,by dsimp only;omega,q3⟩,by dsimp only;omega⟩
  by_cases hn:gx iH e.piece ⟨-1,-1⟩=true
  ·rw [hn];exact .inl eK
  ·rw [show gx iH e.piece ⟨-1,-1⟩=false by simpa using hn]
   rw [Bool.not_false,cond_true];cases bB:decide (c.gJ<_) with
   |false=>exact .inl eK
   |true=>
    rw [cond_true];refine .inl ⟨_,rfl,⟨by dsimp only;omega,by dsimp only;omega,?_⟩,by dsimp only;omega⟩;rcases hs a (by omega) hle e he with h|⟨h1,h2,h3⟩
    ·rw [ED] at hn;exact absurd h hn
    ·refine .inr ⟨h1,.inr (by rw [h2];omega),?_⟩;dsimp only;rw [eZ,h2];unfold lead;rw [if_neg (show a≠p by omega),Int.add_comm]
     refine jF ?_ h3;rw [eZ,show CH x (a -x.bj) -CH x p+(DU x a -DU x (a -x.bj))=CH x (a -x.bj) -CH x p+DU x a -DU x (a -x.bj) by omega]
     exact xO ((eZ _).trans (jF ((eZ _).trans (xO (eZ _) (eZ _))) (eZ _))) (eZ _)
 ·rw [decide_eq_false hle];exact .inr ⟨_,rfl,q3⟩
theorem aoe {x:cT} (hx:qV x):bH (DI x) (fun E=>((E.length:Nat):Int)=x.aT+1∧∀q,0≤q→q≤x.aT→∀e,aC E q=some e→n_ x E q e):=by
 have hl:=hx.len;have xQ:=hx.kerf;have MV:=hx.XD;have jS:=hx.cl;have MH:=hx.dl
 have get:∀{l v:List Int},((l.length:Nat):Int)=x.aT→(v.length=l.length+1∧∀(k:Nat) (hk:k<v.length),v[k]=U (pre l k))→∀k,0≤k→k≤x.aT→aC v k=some (U (pre l k.toNat)):=by
  intro l v h1 h2 k k0 k1;obtain⟨j,rfl⟩:=Int.eq_ofNat_of_zero_le k0;rw [cQ (by omega),h2.2 j (by omega)];rfl
 unfold DI;refine aH (XG x.dF (by omega)) (fun ch HU=>aH (XG x.cO (by omega)) (fun du hdu=>?_));have hc:=get jS HU;have hd:=get MH hdu;obtain⟨n,hn⟩:=Int.eq_ofNat_of_zero_le hl.1;rw [hn,bK (by omega)];refine aH (rT (by omega) (by omega)) ?_;rintro m rfl;refine aH (rT (by omega) (by omega)) ?_;rintro m rfl;refine aH (Q:=fun E:List b9=>((E.length:Nat):Int)=x.aT+1∧∀q,0≤q→q≤x.aT→∀e,aC E q=some e→n_ x E q e) ?_ (fun v hv=>aO (by rw [←hn];exact hv));refine p_ (step:=fun q:Int×List b9×List b9=>AG x ch du q.1 q.2.1 q.2.2) (fun q=>(-1≤q.1∧q.1≤x.aT)∧(((q.2.1.length:Nat):Int)=x.aT+1∧((q.2.2.length:Nat):Int)=x.aT+1)∧(∀k,q.1<k→k≤x.aT→∀e,aC q.2.1 k=some e→n_ x q.2.1 k e)∧∀k,q.1<k→k≤x.aT→∀e,aC q.2.2 k=some e→pU x q.2.1 k e) (fun q=>(q.1+1).toNat) _ (fun q hq=>?_) _ ⟨⟨by dsimp only;omega,by dsimp only;omega⟩,⟨by dsimp only;rw [List.length_replicate];omega,by dsimp only;rw [List.length_replicate];omega⟩,fun k a b=>by dsimp only at a;omega,fun k a b=>by dsimp only at a;omega⟩;obtain⟨p,E,S⟩:=q;obtain⟨q1,⟨q2,q3⟩,q4,q5⟩:=hq;dsimp only at q1 q2 q3 q4 q5;unfold AG;dsimp only;by_cases hp:0≤p
 ·rw [decide_eq_true hp,cond_true]
  have key:bH (β (AF x p du E) (fun gF=>(β (aC S p) (fun e=>(β (aC ch x.aT) (fun e1=>(β (aC ch p) (fun e2=>(β ((β (aC (aU S p gF) p) (fun e3=>(bif(!(gx iH e3.piece (⟨-1,-1⟩:de))) then(bif(decide ((U (e1 -e2))<e3.gJ)) then some e3 else some (⟨(⟨-1,-1⟩:de),U (e1 -e2)⟩:b9)) else some (⟨(⟨-1,-1⟩:de),U (e1 -e2)⟩:b9)))):Option b9) (fun pP=>(β ((bb (fun q=>uE x ch du p S gF q.1 q.2) ((U ((U (p+x.dq))+x.bj)),pP)):Option b9) (fun eY=>(β (aC E p) (fun e9=>some ((aU E p eY),aU S p gF))))))))))))))) (fun w=>∃a b,w=(aU E p a,aU S p b)∧n_ x E p a∧pU x E p b):=by
   refine aH (aoc hx q2 ⟨hp,q1.2⟩ hd) (fun s hs=>aH (xP q3 hp q1.2) (fun _ _=>?_));rw [hc _ (by omega) (by omega),aN,hc _ (by omega) (by omega),aN,MN hp (by omega),aN];have stop:n_ x E p ⟨⟨-1,-1⟩,U (U (pre x.dF x.aT.toNat) -U (pre x.dF p.toNat))⟩:=.inl ⟨rfl,(eZ _).trans (xO (eZ _) (eZ _))⟩;refine aH (Q:=n_ x E p) ?_ (fun b hb=>aH (aod hx ⟨hp,q1.2⟩ q3 q5 hc hd hb) (fun b1 rh=>aH (xP q2 hp q1.2) (fun _ _=>aO ⟨_,_,rfl,rh,hs⟩)));refine bl (fun hn=>bl (fun _=>aO ?_) (fun _=>aO stop)) (fun _=>aO stop);rcases hs with h|⟨h1,h2,h3⟩
   ·rw [show gx iH s.piece ⟨-1,-1⟩=true from(ED _ _).2 h] at hn
    cases hn
   ·refine .inr ⟨h1,.inl h2,?_⟩;unfold lead;rw [if_pos h2,Int.zero_add];exact h3
  obtain⟨w,hw,a,b,rfl,h1,h2⟩:=key;refine .inl ⟨(p -1,aU E p a,aU S p b),?_,⟨⟨by dsimp only;omega,by dsimp only;omega⟩,⟨by dsimp only;rw [jh];exact q2,by dsimp only;rw [jh];exact q3⟩,fun k k1 k2 e he=>?_,fun k k1 k2 e he=>?_⟩,by dsimp only;omega⟩
  ·rw [hw,aN,bu (by omega) (by omega)]
  ·dsimp only at k1 he⊢;by_cases ek:k=p
   ·rw [ek,MN hp (by omega)] at he;cases he;rw [ek];exact XI xQ.1 hp (Int.le_refl _) h1
   ·rw [Ew hp ek] at he;exact XI xQ.1 hp (by omega) (q4 k (by omega) k2 e he)
  ·dsimp only at k1 he⊢;by_cases ek:k=p
   ·rw [ek,MN hp (by omega)] at he;cases he;rw [ek];exact XJ xQ.1 hp (Int.le_refl _) h2
   ·rw [Ew hp ek] at he;exact XJ xQ.1 hp (by omega) (q5 k (by omega) k2 e he)
 ·rw [decide_eq_false hp];exact .inr ⟨_,rfl,q2,fun k k0 k1=>q4 k (by omega) k1⟩
inductive tg (x:cT):Int→List de→Int→Prop
 |stop {p:Int}:tg x p [] (CH x x.aT -CH x p)
 |last {p:Int} {c:de}:o_ x c→qW x p c.At→dG x c=x.aT→tg x p [c] (lead x p c.At+o9 x c)
 |next{p:Int} {c:de} {cs:List de} {v:Int}:o_ x c→qW x p c.At→dG x c<x.aT→tg x (gG x (dG x c)) cs v→tg x p (c::cs) (lead x p c.At+(o9 x c+(DU x (gG x (dG x c)) -DU x (dG x c)+v)))
theorem aog {x:cT} (hx:qV x) {E:List b9} (hE:((E.length:Nat):Int)=x.aT+1) (hN:∀q,0≤q→q≤x.aT→∀e,aC E q=some e→n_ x E q e):∀(n:Nat) (p:Int) (acc:List de),0≤p→p≤x.aT→x.aT -p≤n→acc.length+n≤100000→
  ∃cs v,bb (fun q:List de×Int=>rM x E q.1 q.2) (acc,p)=some (acc++cs)∧tg x p cs v∧U (VE E p)=U v:=by
 have hl:=hx.len;have xQ:=hx.kerf;intro n
 induction n with
 |zero=>
  intro p acc p0 p1 p2 p3;obtain⟨e,he,_⟩:=xP hE p0 p1;rcases hN p p0 p1 e he with⟨h1,h2⟩|⟨h1,h2,h3⟩
  ·refine⟨[],_,?_,.stop,by rw [A7 he];exact h2⟩;refine fr ?_;unfold rM;dsimp only;rw [decide_eq_true p0,cond_true,he,aN,show gx iH e.piece ⟨-1,-1⟩=true from(ED _ _).2 h1,List.append_nil]
   rfl
  ·exfalso;have:=h1.pos;have:=h1.fit;unfold qW at h2;omega
 |succ n ih=>
  intro p acc p0 p1 p2 p3;obtain⟨e,he,_⟩:=xP hE p0 p1;rcases hN p p0 p1 e he with⟨h1,h2⟩|⟨h1,h2,h3⟩
  ·refine⟨[],_,?_,.stop,by rw [A7 he];exact h2⟩;refine fr ?_;unfold rM;dsimp only;rw [decide_eq_true p0,cond_true,he,aN,show gx iH e.piece ⟨-1,-1⟩=true from(ED _ _).2 h1,List.append_nil]
   rfl
  ·have b1:=h1.pos;have b2:=h1.fit;have b3:=h1.a0
   obtain⟨sz,dj⟩:∃s,aC x.cY e.piece.fS=some s:=by
    obtain⟨j,hj⟩:=Int.eq_ofNat_of_zero_le h1.s0.1;have:=h1.s0.2;rw [hj];exact⟨_,cQ (by omega)⟩
   have tU:dG x e.piece=e.piece.At+sz:=by
    unfold dG EF;rw [dj];rfl
   have st:rM x E acc p=some (.inl (acc++[e.piece],if dG x e.piece=x.aT then-1 else gG x (dG x e.piece))):=by
    unfold rM;rw [decide_eq_true p0,cond_true,he,aN,show gx iH e.piece ⟨-1,-1⟩=false by rw [Bool.eq_false_iff];intro h;exact aoa h1 ((ED _ _).1 h),cond_false,jT (by simp only [List.length_cons,List.length_nil];omega) (by simp only [List.length_cons,List.length_nil];omega),aN,dj,aN,←tU,bu (by omega) (by omega),XK hx (by omega) b2]
   rw [iU (step:=fun q:List de×Int=>rM x E q.1 q.2) st];by_cases hq:dG x e.piece=x.aT
   ·rw [if_pos hq];refine⟨[e.piece],_,fr ?_,.last h1 h2 hq,?_⟩
    ·rfl
    ·rw [A7 he,h3];unfold tf;rw [if_pos hq,Int.add_zero]
   ·rw [if_neg hq];have xR:gG x (dG x e.piece)≤x.aT∧dG x e.piece≤gG x (dG x e.piece):=by unfold gG;omega
    have hpa:p≤e.piece.At:=by unfold qW at h2;omega
    obtain⟨cs,v,c1,c2,c3⟩:=ih (gG x (dG x e.piece)) (acc++[e.piece]) (by omega) xR.1 (by omega) (by rw [List.length_append,List.length_cons,List.length_nil];omega);refine⟨e.piece::cs,_,by rw [c1,List.append_assoc];rfl,.next h1 h2 (by omega) c2,?_⟩
    rw [A7 he,h3];unfold tf;rw [if_neg hq];exact jF rfl (jF rfl (jF rfl c3))
theorem XL {x:cT} (h:EE x):bH (xl x) (fun r=>r.2.2=0→qV x∧∃v,tg x 0 r.1 v∧U r.2.1=U v):=by
 unfold xl;refine aH (an' h) (fun e he=>bl (fun e0=>aO (fun q=>absurd q (by simpa using e0))) (fun e0=>?_));have hx:=he (ke e0);have hl:=hx.len;refine aH (aoe hx) (fun E hE=>?_);obtain⟨cs,v,c1,c2,c3⟩:=aog hx hE.1 hE.2 x.aT.toNat 0 [] (Int.le_refl _) hl.1 (by omega) (by simp only [List.length_nil];omega);rw [c1,aN];refine aH (xP hE.1 (Int.le_refl _) hl.1) (fun e he=>aO fun _=>⟨hx,v,c2,?_⟩);dsimp only;rw [←A7 he];exact c3
inductive PT where
 |leaf (k a:Int)
 |rip (k a:Int) (s t:PT)
def PT.flat:PT→List bq
 |.leaf k a=>[⟨k,a⟩]
 |.rip k a s t=>⟨k,a⟩::(s.flat++t.flat)
def PT.pl (kerf:Int):PT→aJ→Int→List (bq×cB)
 |.leaf k a,r,v=>[(⟨k,a⟩,⟨r,v⟩)]
 |.rip k a s t,r,v=>(⟨k,a⟩,⟨r,v⟩)::(s.pl kerf (cJ r ⟨k,a⟩ kerf).1 (v+1)++t.pl kerf (cJ r ⟨k,a⟩ kerf).2.2 (v+1))
def PT.ok (kerf:Int) (G:Int→aJ→Prop):PT→aJ→Prop
 |.leaf k a,r=>(k=0∧a=0)∨(k=1∧G a r)
 |.rip k a s t,r=>(k=2∨k=3)∧((b8 r k).a<a∧a<(b8 r k).b)∧s.ok kerf G (cJ r ⟨k,a⟩ kerf).1∧t.ok kerf G (cJ r ⟨k,a⟩ kerf).2.2
theorem HV (kerf:Int):∀(t:PT) (r:aJ) (v:Int),(t.pl kerf r v).map Prod.fst=t.flat
 |.leaf k a,r,v=>rfl
 |.rip k a s t,r,v=>by
  show(⟨k,a⟩:bq)::((s.pl kerf _ _++t.pl kerf _ _).map Prod.fst)=_
  rw [List.map_append,HV kerf s,HV kerf t];rfl
theorem A8 (kerf:Int) (t:PT) (r:aJ) (v:Int):(t.pl kerf r v).length=t.flat.length:=by
 rw [←HV kerf t r v,List.length_map]
theorem MW (t:PT):1≤t.flat.length:=by
 cases t with
 |leaf k a=>exact Nat.le_refl _
 |rip k a s t=>show 1≤(s.flat++t.flat).length+1;omega
theorem MZ {S R:Type} {p:dR} {kerf:Int} (body:Int→cB→S→Option (S⊕R)) (step:List cB×Int×S→Option ((List cB×Int×S)⊕(S⊕R)))
  (uX:∀st i s,step (st,i,s)=(bif(decide (0<((st.length:Nat):Int))) then(β (aC st (U (((st.length:Nat):Int) -1))) (fun e=>(β (kJ st (U (((st.length:Nat):Int) -1))) (fun l=>(β (body i e s) (fun z=>Sum.elim (fun vv=>(bif(decide (((p.br.length:Nat):Int)≤i)) then some (ι (κ vv)) else(β (aC p.br i) (fun e2=>(bif(iN e2.Kind) then(cU (cJ e.en e2 kerf) (fun pv=>(β (cK 40 l ([(⟨pv.2.2,U (e.level+1)⟩:cB),(⟨pv.1,U (e.level+1)⟩:cB)])) (fun l1=>some (κ (l1,U (i+1),vv)))))) else some (κ (l,U (i+1),vv))))))) (fun aR=>some (ι (ι aR))) z)))))) else some (ι (κ s))))
  {G:Int→aJ→Prop} (t0:PT) (hN:p.br=t0.flat) (hn:t0.flat.length≤127) (ht:t0.ok kerf G p.Frame) (J:List (bq×cB)→S→Prop)
  (hb:∀(pr:List (bq×cB)) (n:bq) (x:cB) (po:List (bq×cB)) (s:S),t0.pl kerf p.Frame 1=pr++(n,x)::po→aC p.br ((pr.length:Nat):Int)=some n→J pr s→∃s',body ((pr.length:Nat):Int) x s=some (.inl s')∧J (pr++[(n,x)]) s')
  (s0:S) (h0:J [] s0):∃s,bb step ([(⟨p.Frame,1⟩:cB)],0,s0)=some (.inl s)∧J (t0.pl kerf p.Frame 1) s:=by
 have node:∀(pr:List (bq×cB)) (n:bq) (x:cB) (po:List (bq×cB)),t0.pl kerf p.Frame 1=pr++(n,x)::po→pr.length<p.br.length∧aC p.br ((pr.length:Nat):Int)=some n:=by
  intro pr n x po h;have h1:=HV kerf t0 p.Frame 1;rw [h] at h1;have h2:p.br=pr.map Prod.fst++n::po.map Prod.fst:=by rw [hN,←h1];simp
  have h3:pr.length<p.br.length:=by rw [h2];simp
  refine⟨h3,?_⟩;rw [BM,h2,show pr.length=(pr.map Prod.fst).length by simp,List.getElem?_append_right (Nat.le_refl _),Nat.sub_self]
  rfl
 have go:∀(t:PT) (r:aJ) (v:Int) (st:List cB) (pr po:List (bq×cB)) (s:S),t.ok kerf G r→t0.pl kerf p.Frame 1=pr++(t.pl kerf r v++po)→J pr s→st.length+t.flat.length≤200→0≤v∧v+t.flat.length≤400→
   ∃s',bb step (st++[⟨r,v⟩],((pr.length:Nat):Int),s)=bb step (st,(((pr++t.pl kerf r v).length:Nat):Int),s')∧J (pr++t.pl kerf r v) s':=by
  intro t
  induction t with
  |leaf k a=>
   intro r v st pr po s ec kF hJ jH hv;obtain⟨n1,n2⟩:=node pr ⟨k,a⟩ ⟨r,v⟩ po kF;obtain⟨s',b1,b2⟩:=hb pr ⟨k,a⟩ ⟨r,v⟩ po s kF n2 hJ
   have M0:iN k=false:=by
    rcases ec with⟨rfl,_⟩|⟨rfl,_⟩<;>rfl
   refine⟨s',?_,b2⟩;obtain⟨g1,g2⟩:=Xn (xs:=st++[(⟨r,v⟩:cB)]) (by simp);refine iU ?_;have hl:(st++[(⟨r,v⟩:cB)]).length=st.length+1:=by simp
   have h1:1≤(PT.leaf k a).flat.length:=MW _;have hlen:pr.length≤127:=by rw [hN] at n1;omega
   rw [uX,hl,decide_eq_true (by omega),cond_true,bu (by omega) (by omega)];rw [hl] at g1 g2;rw [g1,g2];simp only [aN,List.getLast_concat,List.dropLast_concat];rw [b1,aN,Sum.elim_inl,decide_eq_false (by omega),cond_false,n2,aN,M0,cond_false,bK (by omega),List.length_append];rfl
  |rip k a t1 t2 rW rX=>
   intro r v st pr po s ec kF hJ jH hv;obtain⟨k1,k2,k3,k4⟩:=ec;have mb:(PT.rip k a t1 t2).flat.length=t1.flat.length+t2.flat.length+1:=by show(t1.flat++t2.flat).length+1=_;rw [List.length_append]
   rw [mb] at jH hv
   have HW:t0.pl kerf p.Frame 1=pr++(⟨k,a⟩,⟨r,v⟩)::(t1.pl kerf (cJ r ⟨k,a⟩ kerf).1 (v+1)++(t2.pl kerf (cJ r ⟨k,a⟩ kerf).2.2 (v+1)++po)):=by
    rw [kF];show pr++(((⟨k,a⟩,⟨r,v⟩)::(t1.pl kerf _ _++t2.pl kerf _ _))++po)=_
    simp
   obtain⟨n1,n2⟩:=node pr ⟨k,a⟩ ⟨r,v⟩ _ HW;obtain⟨s1,b1,b2⟩:=hb pr ⟨k,a⟩ ⟨r,v⟩ _ s HW n2 hJ;have M0:iN k=true:=(HN k).2 k1;have aoh:t0.pl kerf p.Frame 1=pr++[(⟨k,a⟩,⟨r,v⟩)]++(t1.pl kerf (cJ r ⟨k,a⟩ kerf).1 (v+1)++(t2.pl kerf (cJ r ⟨k,a⟩ kerf).2.2 (v+1)++po)):=by rw [HW];simp
   obtain⟨s2,c1,c2⟩:=rW (cJ r ⟨k,a⟩ kerf).1 (v+1) (st++[⟨(cJ r ⟨k,a⟩ kerf).2.2,v+1⟩]) _ _ s1 k3 aoh b2 (by rw [List.length_append,List.length_cons,List.length_nil];omega) (by omega);have aoi:t0.pl kerf p.Frame 1=pr++[(⟨k,a⟩,⟨r,v⟩)]++t1.pl kerf (cJ r ⟨k,a⟩ kerf).1 (v+1)++(t2.pl kerf (cJ r ⟨k,a⟩ kerf).2.2 (v+1)++po):=by rw [HW];simp
   obtain⟨s3,d1,d2⟩:=rX (cJ r ⟨k,a⟩ kerf).2.2 (v+1) st _ _ s2 k4 aoi c2 (by omega) (by omega)
   have e:pr++(PT.rip k a t1 t2).pl kerf r v=pr++[(⟨k,a⟩,⟨r,v⟩)]++t1.pl kerf (cJ r ⟨k,a⟩ kerf).1 (v+1)++t2.pl kerf (cJ r ⟨k,a⟩ kerf).2.2 (v+1):=by
    show pr++((⟨k,a⟩,⟨r,v⟩)::(t1.pl kerf _ _++t2.pl kerf _ _))=_
    simp
   refine⟨s3,?_,by rw [e];exact d2⟩;rw [e,←d1,←c1];obtain⟨g1,g2⟩:=Xn (xs:=st++[(⟨r,v⟩:cB)]) (by simp);refine iU ?_;have hl:(st++[(⟨r,v⟩:cB)]).length=st.length+1:=by simp
   have hlen:pr.length≤127:=by rw [hN] at n1;omega
   rw [uX,hl,decide_eq_true (by omega),cond_true,bu (by omega) (by omega)];rw [hl] at g1 g2;rw [g1,g2];simp only [aN,List.getLast_concat,List.dropLast_concat];rw [b1,aN,Sum.elim_inl,decide_eq_false (by omega),cond_false,n2,aN,M0,cond_true,fe,bu (n:=v+1) (by omega) (by omega),jT (by simp only [List.length_cons,List.length_nil];omega) (by simp only [List.length_cons,List.length_nil];omega),aN,bK (by omega)];simp
 obtain⟨s',e1,e2⟩:=go t0 p.Frame 1 [] [] [] s0 ht (by simp) h0 (by simp only [List.length_nil];omega) (by omega);simp only [List.nil_append] at e1 e2;refine⟨s',?_,e2⟩;rw [show((([]:List (bq×cB)).length:Nat):Int)=0 from rfl] at e1
 rw [e1];refine fr ?_;rw [uX];rfl
theorem M3 {k a:Int} {r:aJ} {v:Int} (hv:v≤64) (h:(k=0∧a=0)∨k=1∨((k=2∨k=3)∧(b8 r k).a<a∧a<(b8 r k).b)):jf ⟨k,a⟩ ⟨r,v⟩=0:=by
 unfold jf;dsimp only;rcases h with⟨rfl,rfl⟩|rfl|⟨hk,h1,h2⟩
 ·simp only [fe];rw [decide_eq_false (show¬64<v by omega)]
  rfl
 ·simp only [fe];rw [decide_eq_false (show¬64<v by omega)]
  rfl
 ·simp only [fe];rw [decide_eq_false (show¬64<v by omega),decide_eq_false (show¬k<0 by omega),decide_eq_false (show¬3<k by omega),show(k==0)=false by simp;omega,(HN k).2 hk,decide_eq_false (show¬a≤(b8 r k).a by omega),decide_eq_false (show¬(b8 r k).b≤a by omega)]
  rfl
theorem uY:∀t:PT,∃n,t.flat.length=2*n+1
 |.leaf _ _=>⟨0,rfl⟩
 |.rip _ _ s t=>by
  obtain⟨a,ha⟩:=uY s;obtain⟨b,hb⟩:=uY t;refine⟨a+b+1,?_⟩;show(s.flat++t.flat).length+1=_
  rw [List.length_append,ha,hb];omega
theorem HX {kerf:Int} {G:Int→aJ→Prop}:∀(t:PT) (r:aJ) (v:Int),t.ok kerf G r→v+((t.flat.length/2:Nat):Int)≤64→∀e∈t.pl kerf r v,jf e.1 e.2=0∧(e.1.Kind=1→G e.1.At e.2.en)
 |.leaf k a,r,v,h,hv,e,he=>by
  have:v≤64:=by omega
  rw [show(PT.leaf k a).pl kerf r v=[(⟨k,a⟩,⟨r,v⟩)] from rfl,List.mem_singleton] at he
  subst he;rcases h with⟨rfl,rfl⟩|⟨rfl,hG⟩
  ·exact⟨M3 this (.inl ⟨rfl,rfl⟩),fun h=>by cases h⟩
  ·exact⟨M3 this (.inr (.inl rfl)),fun _=>hG⟩
 |.rip k a s t,r,v,h,hv,e,he=>by
  obtain⟨h1,h2,h3,h4⟩:=h;have hl:(PT.rip k a s t).flat.length=s.flat.length+t.flat.length+1:=by show(s.flat++t.flat).length+1=_;rw [List.length_append]
  rw [hl] at hv;have p1:=MW s;have p2:=MW t
  have he:e=(⟨k,a⟩,⟨r,v⟩)∨e∈s.pl kerf (cJ r ⟨k,a⟩ kerf).1 (v+1)∨e∈t.pl kerf (cJ r ⟨k,a⟩ kerf).2.2 (v+1):=by
   have:=List.mem_cons.1 he;rw [List.mem_append] at this;exact this
  rcases he with rfl|he|he
  ·refine⟨M3 (by omega) (.inr (.inr ⟨h1,h2⟩)),fun h=>?_⟩;dsimp only at h;omega
  ·exact HX s _ _ h3 (by obtain⟨n,hn⟩:=uY s;obtain⟨m,hm⟩:=uY t;omega) e he
  ·exact HX t _ _ h4 (by obtain⟨n,hn⟩:=uY s;obtain⟨m,hm⟩:=uY t;omega) e he
theorem XM {p:dR} {kerf:Int} {brd:aJ→Int→Option Int} {o:Option Int} {body:Int→cB→Int×Int→Option ((Int×Int)⊕(Int×Int))} {step:List cB×Int×Int×Int→Option ((List cB×Int×Int×Int)⊕((Int×Int)⊕(Int×Int)))}
  (I6:∀i x s,body i x s=(bif(decide (((p.br.length:Nat):Int)≤i)) then some (ι (3,s.2)) else(β (aC p.br i) (fun e=>(bif((jf e x)==0) then(bif(e.Kind==1) then(β (brd x.en e.At) (fun cv=>(bif(cv !=0) then some (ι (cv,s.2)) else some (κ (s.1,U (i+1)))))) else(bif((jf e x)!=0) then some (ι ((jf e x),s.2)) else some (κ (s.1,U (i+1))))) else(bif((jf e x)!=0) then some (ι ((jf e x),s.2)) else some (κ (s.1,U (i+1)))))))))
  (uX:∀st i s,step (st,i,s)=(bif(decide (0<((st.length:Nat):Int))) then(β (aC st (U (((st.length:Nat):Int) -1))) (fun e=>(β (kJ st (U (((st.length:Nat):Int) -1))) (fun l=>(β (body i e s) (fun z=>Sum.elim (fun vv=>(bif(decide (((p.br.length:Nat):Int)≤i)) then some (ι (κ vv)) else(β (aC p.br i) (fun e2=>(bif(iN e2.Kind) then(cU (cJ e.en e2 kerf) (fun pv=>(β (cK 40 l ([(⟨pv.2.2,U (e.level+1)⟩:cB),(⟨pv.1,U (e.level+1)⟩:cB)])) (fun l1=>some (κ (l1,U (i+1),vv)))))) else some (κ (l,U (i+1),vv))))))) (fun aR=>some (ι (ι aR))) z)))))) else some (ι (κ s))))
  (ho:o=(β (nq p.Frame) (fun iv=>(bif(!iv) then some 19 else(bif(decide (kerf<0)) then some 9 else(bif(decide (20<kerf)) then some 9 else(bif(decide (127<((p.br.length:Nat):Int))) then some 4 else(β (bb step ([(⟨p.Frame,1⟩:cB)],0,0,0)) (fun vz=>Sum.elim (fun cI=>(bif(decide (cI.2<((p.br.length:Nat):Int))) then some 4 else some 0)) (fun lx=>some lx.1) vz)))))))))
  (hF:nq p.Frame=some true) (hk:0≤kerf∧kerf≤20) {G:Int→aJ→Prop} (hG:∀a r,G a r→brd r a=some 0) (t:PT) (hN:p.br=t.flat) (hn:t.flat.length≤127) (ht:t.ok kerf G p.Frame):o=some 0:=by
 subst ho;rw [hF,aN,Bool.not_true,cond_false,decide_eq_false (by omega),cond_false,decide_eq_false (by omega),cond_false,decide_eq_false (by rw [hN];omega),cond_false];have aoj:=uY t;have lh:=HX t p.Frame 1 ht (by obtain⟨n,tE⟩:=aoj;omega)
 obtain⟨s,h1,h2⟩:=MZ body step uX t hN hn ht (fun pr s=>s=(0,((pr.length:Nat):Int))) (fun pr n x po s kF tx hJ=>by
  subst hJ;obtain⟨a1,a2⟩:=lh (n,x) (by rw [kF];simp)
  have hlen:pr.length<t.flat.length:=by
   rw [←A8 kerf t p.Frame 1,kF];simp
  refine⟨_,?_,rfl⟩;rw [I6,decide_eq_false (by rw [hN];omega),cond_false,tx,aN];dsimp only at a1 a2⊢;rw [a1,show((0:Int)==0)=true from rfl,cond_true,show((0:Int)!=0)=false from rfl,cond_false,bK (by omega),List.length_append,List.length_cons,List.length_nil]
  by_cases q8:n.Kind=1
  ·rw [show(n.Kind==1)=true by simp [q8],cond_true,hG _ _ (a2 q8),aN]
   rfl
  ·rw [show(n.Kind==1)=false by simp [q8],cond_false]) (0,0) rfl
 subst h2;rw [h1,aN,Sum.elim_inl,A8,←hN,decide_eq_false (by dsimp only;omega)];rfl
def ib (axis kerf B:Int):Int→List (Sp×PT)→PT
 |_,[]=>.leaf 0 0
 |e,(s,t)::ps=>if e<s.a then .rip axis (s.a -kerf) (.leaf 0 0) (if s.b<B then .rip axis s.b t (ib axis kerf B (min (s.b+kerf) B) ps) else t) else(if s.b<B then .rip axis s.b t (ib axis kerf B (min (s.b+kerf) B) ps) else t)
def HY (kerf B:Int):Int→List (Sp×PT)→Prop
 |_,[]=>True
 |e,(s,_)::ps=>s.a<s.b∧(s.a=e∨e+kerf+1≤s.a)∧s.b≤B∧(s.b<B→HY kerf B (min (s.b+kerf) B) ps)∧(s.b=B→ps=[])
def EG (F N:List bq) (c:Int):Prop:=c=((F.length:Nat):Int)∧(F.length≤127→N=F)∧N.length≤127
theorem EH {F N l:List bq} {c:Int} (h:EG F N c) (hb:F.length+l.length≤1000000):∃N',o6 l c N=some ((((F++l).length:Nat):Int),N')∧EG (F++l) N' (((F++l).length:Nat):Int):=by
 obtain⟨rfl,h2,h3⟩:=h
 have e:U (((F.length:Nat):Int)+((l.length:Nat):Int))=(((F++l).length:Nat):Int):=by
  rw [bu (by omega) (by omega),List.length_append];omega
 unfold o6;rw [e];by_cases hc:(F++l).length≤127
 ·have hF:F.length≤127:=by rw [List.length_append] at hc;omega
  have:=h2 hF;subst this;have hl:N.length+l.length≤127:=by rw [List.length_append] at hc;exact hc
  rw [decide_eq_true (by omega),cond_true,jT (by omega) (by omega),aN];exact⟨_,rfl,rfl,fun _=>rfl,hc⟩
 ·rw [decide_eq_false (by omega)];exact⟨_,rfl,rfl,fun q=>absurd q hc,h3⟩
theorem aok {axis kerf A B:Int} (hk:0≤kerf∧kerf≤20) (hA:-600≤A) (hB:B≤600) {L:List (Sp×PT)} (hL:L.length≤1000000):∀(ps:List (Sp×PT)) (e:Int) (j:Nat) (F N:List bq) (c:Int),L.drop j=ps→j≤L.length→HY kerf B e ps→A≤e∧e≤600→EG F N c→F.length+(ib axis kerf B e ps).flat.length≤1000000→
  ∃w F',bb (fun q:Int×Bool×Int×List bq×Int=>pR axis kerf (L.map Prod.fst) (L.map fun q=>q.2.flat) ⟨A,B⟩ q.1 q.2.1 q.2.2.1 q.2.2.2.1 q.2.2.2.2) (e,false,(j:Int),N,c)=some (.inr w)∧EG F' w.2.1 w.2.2∧F'++(if w.1=true then [] else [⟨0,0⟩])=F++(ib axis kerf B e ps).flat:=by
 intro ps
 induction ps with
 |nil=>
  intro e j F N c hd hj HU he hR hb
  have eR:j=L.length:=by
   have:=List.drop_eq_nil_iff.1 hd;omega
  refine⟨(false,N,c),F,fr ?_,hR,rfl⟩;unfold pR;dsimp only;rw [List.length_map,eR,fX];rfl
 |cons q ps ih=>
  obtain⟨s,t⟩:=q;intro e j F N c hd hj HU he hR hb;obtain⟨c1,c2,c3,c4,c5⟩:=HU
  have bB:j<L.length:=by
   rcases Nat.lt_or_ge j L.length with h|h
   ·exact h
   ·rw [List.drop_eq_nil_of_le h] at hd;exact absurd hd (by simp)
  have jS:=List.drop_eq_getElem_cons bB;rw [hd] at jS;obtain⟨hq,r8⟩:=List.cons.inj jS;have g1:aC (L.map Prod.fst) (j:Int)=some s:=by rw [cQ (by rw [List.length_map];exact bB),List.getElem_map,←hq]
  have g2:aC (L.map fun q=>q.2.flat) (j:Int)=some t.flat:=by rw [cQ (by rw [List.length_map];exact bB),List.getElem_map,←hq]
  obtain⟨F1,xS⟩:∃F1,F1=F++(if e<s.a then [⟨axis,s.a -kerf⟩,⟨0,0⟩] else []):=⟨_,rfl⟩
  have aqk:F1.length≤F.length+2:=by
   rw [xS,List.length_append];split<;>simp
  have uW:F++(ib axis kerf B e ((s,t)::ps)).flat=F1++(if s.b<B then PT.rip axis s.b t (ib axis kerf B (min (s.b+kerf) B) ps) else t).flat:=by
   rw [xS,ib];by_cases h:e<s.a
   ·rw [if_pos h,if_pos h];simp [PT.flat]
   ·rw [if_neg h,if_neg h];simp
  have mH:(F++(ib axis kerf B e ((s,t)::ps)).flat).length≤1000000:=by rw [List.length_append];exact hb
  rw [uW,List.length_append] at mH
  have k1:∃N1,(bif(decide (e<s.a)) then(β (o6 ([(⟨axis,U (s.a -kerf)⟩:bq),(⟨0,0⟩:bq)]) c N) (fun rv=>some (rv.2,rv.1))) else some (N,c):Option ((List bq)×Int))=some (N1,((F1.length:Nat):Int))∧EG F1 N1 ((F1.length:Nat):Int):=by
   by_cases h:e<s.a
   ·rw [if_pos h] at xS;have hF2:F1.length=F.length+2:=by rw [xS];simp
    rw [decide_eq_true h,cond_true,bu (n:=s.a -kerf) (by omega) (by omega)];obtain⟨N1,r1,r2⟩:=EH (l:=[⟨axis,s.a -kerf⟩,⟨0,0⟩]) hR (by simp only [List.length_cons,List.length_nil];omega);rw [←xS] at r1 r2;exact⟨N1,by rw [r1];rfl,r2⟩
   ·rw [if_neg h,List.append_nil] at xS;subst xS;rw [decide_eq_false h];obtain⟨rfl,_⟩:=id hR;exact⟨N,rfl,hR⟩
  obtain⟨N1,k1,k2⟩:=k1
  have aol:(bif(s.a !=e) then(false,decide (s.a<(U ((U (e+kerf))+1)))) else(false,false):Bool×Bool)=(false,false):=by
   rcases c2 with h|h
   ·rw [show(s.a !=e)=false by simp [h]]
    rfl
   ·rw [show(s.a !=e)=true by simp;omega,bu (n:=e+kerf) (by omega) (by omega),bu (by omega) (by omega),decide_eq_false (by omega)]
    rfl
  have th:pR axis kerf (L.map Prod.fst) (L.map fun q=>q.2.flat) ⟨A,B⟩ e false (j:Int) N c=(bif(decide (s.b<B)) then(β (o6 ([(⟨axis,s.b⟩:bq)]) ((F1.length:Nat):Int) N1) (fun jO=>(β (aC (L.map fun q=>q.2.flat) (j:Int)) (fun e1=>(β (o6 e1 jO.1 jO.2) (fun nX=>some (κ ((min (U (s.b+kerf)) B),false,U ((j:Int)+1),nX.2,nX.1)))))))) else(β (aC (L.map fun q=>q.2.flat) (j:Int)) (fun e2=>(β (o6 e2 ((F1.length:Nat):Int) N1) (fun nY=>some (κ (e,true,U ((j:Int)+1),nY.2,nY.1))))))):=by
   unfold pR;rw [List.length_map,fm bB,cond_true,g1,aN,decide_eq_false (by omega),cond_false,cond_false,aol,fe];dsimp only;rw [cond_false,decide_eq_false (by omega),cond_false,k1,aN]
  rw [g2] at th;simp only [aN] at th;rw [bK (by omega)] at th;by_cases EI:s.b<B
  ·rw [if_pos EI] at uW mH;have mb:(PT.rip axis s.b t (ib axis kerf B (min (s.b+kerf) B) ps)).flat=⟨axis,s.b⟩::(t.flat++(ib axis kerf B (min (s.b+kerf) B) ps).flat):=rfl;rw [mb,List.length_cons,List.length_append] at mH;obtain⟨N2,r1,r2⟩:=EH (l:=[⟨axis,s.b⟩]) k2 (by simp only [List.length_cons,List.length_nil];omega);obtain⟨N3,r3,r4⟩:=EH (l:=t.flat) r2 (by rw [List.length_append,List.length_cons,List.length_nil];omega);rw [decide_eq_true EI,cond_true,r1,aN] at th;dsimp only at th;rw [r3,aN,bu (n:=s.b+kerf) (by omega) (by omega)] at th;rw [iU (step:=fun q:Int×Bool×Int×List bq×Int=>pR axis kerf (L.map Prod.fst) (L.map fun q=>q.2.flat) ⟨A,B⟩ q.1 q.2.1 q.2.2.1 q.2.2.2.1 q.2.2.2.2) th];obtain⟨w,F',e1,e2,e3⟩:=ih (min (s.b+kerf) B) (j+1) _ _ _ r8.symm (by omega) (c4 EI) (by omega) r4 (by simp only [List.length_append,List.length_cons,List.length_nil];omega);refine⟨w,F',e1,e2,?_⟩;rw [e3,uW,mb];simp
  ·have BF:=c5 (by omega);subst BF;rw [if_neg EI] at uW mH;obtain⟨N2,r1,r2⟩:=EH (l:=t.flat) k2 (by omega);rw [decide_eq_false EI,cond_false,r1,aN] at th;rw [iU (step:=fun q:Int×Bool×Int×List bq×Int=>pR axis kerf (L.map Prod.fst) (L.map fun q=>q.2.flat) ⟨A,B⟩ q.1 q.2.1 q.2.2.1 q.2.2.2.1 q.2.2.2.2) th]
   have hj1:j+1=L.length:=by
    have:=List.drop_eq_nil_iff.1 r8.symm;omega
   refine⟨(true,N2,_),F1++t.flat,fr ?_,r2,?_⟩
   ·unfold pR;dsimp only;rw [List.length_map,←hj1,fX];rfl
   ·rw [uW];simp
theorem XN {frame:aJ} {axis kerf:Int} (hx:axis=2∨axis=3) (hF:nq frame=some true) (hk:0≤kerf∧kerf≤20) (hA:-600≤(b8 frame axis).a∧(b8 frame axis).a≤600) (hB:(b8 frame axis).b≤600) {L:List (Sp×PT)} (hL:L.length≤1000000) (hc:HY kerf (b8 frame axis).b (b8 frame axis).a L) (hb:(ib axis kerf (b8 frame axis).b (b8 frame axis).a L).flat.length≤1000000):
  bH (xn frame axis kerf (L.map Prod.fst) (L.map fun q=>q.2.flat)) (fun r=>r.2=0→r.1=(ib axis kerf (b8 frame axis).b (b8 frame axis).a L).flat∧r.1.length≤127):=by
 obtain⟨w,F',e1,e2,e3⟩:=aok (axis:=axis) hk hA.1 hB hL L (b8 frame axis).a 0 [] [] 0 (List.drop_zero ..) (Nat.zero_le _) hc ⟨Int.le_refl _,hA.2⟩ ⟨rfl,fun _=>rfl,Nat.zero_le _⟩ (by simpa using hb);unfold xn;rw [(HN axis).2 hx,Bool.not_true,cond_false,hF,aN,Bool.not_true,cond_false,List.length_map,List.length_map,show((((L.length:Nat):Int))!=((L.length:Nat):Int))=false by simp,cond_false,decide_eq_false (by omega),cond_false,decide_eq_false (by omega),cond_false,fe]
 have E4:bb (fun q:Int×Bool×Int×List bq×Int=>pR axis kerf (L.map Prod.fst) (L.map fun q=>q.2.flat) (b8 frame axis) q.1 q.2.1 q.2.2.1 q.2.2.2.1 q.2.2.2.2) ((b8 frame axis).a,false,0,[],0)=some (.inr w):=e1;rw [E4,aN,Sum.elim_inr];obtain⟨b,N,c⟩:=w;dsimp only at e2 e3⊢;rw [List.nil_append] at e3;cases b with
 |true=>
  rw [if_pos rfl,List.append_nil] at e3;subst e3;obtain⟨rfl,f2,f3⟩:=e2;refine bl (fun h=>by cases h) (fun _=>bl (fun _=>aO (fun q=>absurd q (by decide))) (fun h=>aO fun _=>?_));have h:=of_decide_eq_false h;dsimp only;rw [f2 (by omega)];exact⟨rfl,by omega⟩
 |false=>
  have hlen:F'.length+1≤1000000:=by
   have:=congrArg List.length e3;rw [List.length_append] at this;simp only [Bool.false_eq_true,if_false,List.length_cons,List.length_nil] at this;omega
  rw [if_neg (by simp)] at e3;obtain⟨N',r1,r2⟩:=EH (l:=[⟨0,0⟩]) e2 (by simp only [List.length_cons,List.length_nil];omega);rw [Bool.not_false,cond_true,r1,aN];obtain⟨_,f2,f3⟩:=r2;refine bl (fun _=>aO (fun q=>absurd q (by decide))) (fun h=>aO fun _=>?_);have h:=of_decide_eq_false h;dsimp only at h⊢;rw [f2 (by omega),e3];refine⟨rfl,?_⟩;rw [←e3];omega
def PT.val (kerf ch du:Int) (V:aJ→Int) (g:Int→aJ→Int):PT→aJ→Int
 |.leaf k a,r=>if k=0 then ch*V r else g a r
 |.rip k a s t,r=>s.val kerf ch du V g (cJ r ⟨k,a⟩ kerf).1+(du*V (cJ r ⟨k,a⟩ kerf).2.1+t.val kerf ch du V g (cJ r ⟨k,a⟩ kerf).2.2)
def rc (r:aJ) (axis p q:Int):aJ:=xv r axis ⟨(b8 r axis).a+p,(b8 r axis).a+q⟩
theorem M4 {r:aJ} {axis p q:Int} (hx:axis=2∨axis=3):b8 (rc r axis p q) axis=⟨(b8 r axis).a+p,(b8 r axis).a+q⟩:=by
 rcases hx with rfl|rfl<;>rfl
theorem XO {r:aJ} {axis kerf n p m:Int} (hx:axis=2∨axis=3) (hk:0≤kerf∧kerf≤20) (ha:-600≤(b8 r axis).a∧(b8 r axis).a≤600) (hm:-2000≤m∧m≤2000):cJ (rc r axis p n) ⟨axis,(b8 r axis).a+m⟩ kerf=(rc r axis p m,rc r axis m (min (m+kerf) n),rc r axis (min (m+kerf) n) n):=by
 unfold cJ;simp only [fe];rw [M4 hx,bu (by omega) (by omega)];have e:min ((b8 r axis).a+m+kerf) ((b8 r axis).a+n)=(b8 r axis).a+min (m+kerf) n:=by omega
 dsimp only;rw [e];rcases hx with rfl|rfl<;>rfl
structure M5 (x:cT) (r:aJ) (axis:Int) (ch du:Int) (V:aJ→Int) (g:Int→aJ→Int) (G:Int→aJ→Prop) (T:de→PT):Prop where
 ln:qV x
 ax:axis=2∨axis=3
 lo:-600≤(b8 r axis).a∧(b8 r axis).a≤600
 up:(b8 r axis).a+x.aT=(b8 r axis).b
 A9:∀p q,0≤p→p≤q→q≤x.aT→U (ch*V (rc r axis p q))=U (CH x q -CH x p)
 ly:∀p q,0≤p→p≤q→q≤x.aT→U (du*V (rc r axis p q))=U (DU x q -DU x p)
 part:∀c,o_ x c→U ((T c).val x.bj ch du V g (rc r axis c.At (dG x c)))=U (o9 x c)∧(T c).ok x.bj G (rc r axis c.At (dG x c))
theorem XP {x:cT} {r:aJ} {axis:Int} (hx:axis=2∨axis=3) (h:(b8 r axis).a+x.aT=(b8 r axis).b):rc r axis 0 x.aT=r:=by
 unfold rc;rw [Int.add_zero,h];rcases hx with rfl|rfl<;>rfl
def ic (x:cT) (A:Int) (T:de→PT) (c:de):Sp×PT:=(⟨A+c.At,A+dG x c⟩,T c)
theorem XQ {x:cT} {r:aJ} {axis ch du:Int} {V:aJ→Int} {g:Int→aJ→Int} {G:Int→aJ→Prop} {T:de→PT} (h:M5 x r axis ch du V g G T) {p:Int} {cs:List de} {v:Int} (hf:tg x p cs v):0≤p→p≤x.aT→
  HY x.bj (b8 r axis).b ((b8 r axis).a+p) (cs.map (ic x (b8 r axis).a T))∧
  U ((ib axis x.bj (b8 r axis).b ((b8 r axis).a+p) (cs.map (ic x (b8 r axis).a T))).val x.bj ch du V g (rc r axis p x.aT))=U v∧
  (ib axis x.bj (b8 r axis).b ((b8 r axis).a+p) (cs.map (ic x (b8 r axis).a T))).ok x.bj G (rc r axis p x.aT):=by
 have hl:=h.ln.len;have hk:=h.ln.kerf;have ko:=h.lo;have u_:=h.up
 have ahead:∀(p:Int) (c:de) (u:PT) (w:Int),0≤p→o_ x c→qW x p c.At→U (u.val x.bj ch du V g (rc r axis c.At x.aT))=U w→u.ok x.bj G (rc r axis c.At x.aT)→
   U ((if(b8 r axis).a+p<(b8 r axis).a+c.At then PT.rip axis ((b8 r axis).a+c.At -x.bj) (.leaf 0 0) u else u).val x.bj ch du V g (rc r axis p x.aT))=U (lead x p c.At+w)∧
   (if(b8 r axis).a+p<(b8 r axis).a+c.At then PT.rip axis ((b8 r axis).a+c.At -x.bj) (.leaf 0 0) u else u).ok x.bj G (rc r axis p x.aT):=by
  intro p c u w p0 hc hn hu ec;have c1:=hc.pos;have c2:=hc.fit;unfold lead;rcases hn with e|e
  ·rw [if_neg (by omega),if_pos e,Int.zero_add];rw [e] at hu ec;exact⟨hu,ec⟩
  ·rw [if_pos (by omega),if_neg (by omega)];have e1:(b8 r axis).a+c.At -x.bj=(b8 r axis).a+(c.At -x.bj):=by omega
   have e2:min (c.At -x.bj+x.bj) x.aT=c.At:=by omega
   have hp:=XO (r:=r) (n:=x.aT) (p:=p) h.ax hk ko (m:=c.At -x.bj) (by omega);rw [e2] at hp;rw [e1];constructor
   ·show U ((PT.leaf 0 0).val x.bj ch du V g (cJ (rc r axis p x.aT) ⟨axis,_⟩ x.bj).1+(du*V (cJ (rc r axis p x.aT) ⟨axis,_⟩ x.bj).2.1+u.val x.bj ch du V g (cJ (rc r axis p x.aT) ⟨axis,_⟩ x.bj).2.2))=_
    rw [hp];dsimp only;rw [Int.add_assoc (CH x (c.At -x.bj) -CH x p)];refine jF ?_ (jF (h.ly _ _ (by omega) (by omega) (by omega)) hu);exact h.A9 _ _ p0 (by omega) (by omega)
   ·refine⟨h.ax,?_,?_,?_⟩
    ·rw [M4 h.ax];exact⟨by dsimp only;omega,by dsimp only;omega⟩
    ·exact .inl ⟨rfl,rfl⟩
    ·rw [hp];exact ec
 induction hf with
 |stop=>
  rename_i p;intro p0 p1;exact⟨trivial,h.A9 _ _ p0 p1 (Int.le_refl _),.inl ⟨rfl,rfl⟩⟩
 |last hc hn he=>
  rename_i p c;intro p0 p1;have c1:=hc.pos;have c2:=hc.fit;have c3:=hc.a0;obtain⟨t1,t2⟩:=h.part c hc;rw [he] at t1 t2;obtain⟨a1,a2⟩:=ahead p c (T c) (o9 x c) p0 hc hn t1 t2
  have hr:ib axis x.bj (b8 r axis).b ((b8 r axis).a+p) ([c].map (ic x (b8 r axis).a T))=(if(b8 r axis).a+p<(b8 r axis).a+c.At then PT.rip axis ((b8 r axis).a+c.At -x.bj) (.leaf 0 0) (T c) else T c):=by
   show ib axis x.bj (b8 r axis).b ((b8 r axis).a+p) [(⟨(b8 r axis).a+c.At,(b8 r axis).a+dG x c⟩,T c)]=_
   rw [ib];dsimp only;rw [if_neg (show¬(b8 r axis).a+dG x c<(b8 r axis).b by omega)]
  rw [hr];refine⟨⟨by dsimp only [ic];omega,?_,by dsimp only [ic];omega,fun q=>?_,fun _=>rfl⟩,a1,a2⟩
  ·dsimp only [ic];unfold qW at hn;omega
  ·dsimp only [ic] at q;omega
 |next hc hn he hf ih=>
  rename_i p c cs v;intro p0 p1;have c1:=hc.pos;have c2:=hc.fit;have c3:=hc.a0;have xR:gG x (dG x c)≤x.aT∧dG x c≤gG x (dG x c):=by unfold gG;omega
  obtain⟨i1,i2,i3⟩:=ih (by omega) xR.1;obtain⟨t1,t2⟩:=h.part c hc;have em:min ((b8 r axis).a+dG x c+x.bj) (b8 r axis).b=(b8 r axis).a+gG x (dG x c):=by unfold gG;omega
  have hp:=XO (r:=r) (n:=x.aT) (p:=c.At) h.ax hk ko (m:=dG x c) (by omega);change _=(rc r axis c.At (dG x c),rc r axis (dG x c) (gG x (dG x c)),rc r axis (gG x (dG x c)) x.aT) at hp;obtain⟨u,hu⟩:∃u,u=PT.rip axis ((b8 r axis).a+dG x c) (T c) (ib axis x.bj (b8 r axis).b ((b8 r axis).a+gG x (dG x c)) (cs.map (ic x (b8 r axis).a T))):=⟨_,rfl⟩
  have u1:U (u.val x.bj ch du V g (rc r axis c.At x.aT))=U (o9 x c+(DU x (gG x (dG x c)) -DU x (dG x c)+v)):=by
   rw [hu];show U ((T c).val x.bj ch du V g (cJ (rc r axis c.At x.aT) ⟨axis,_⟩ x.bj).1+(du*V (cJ (rc r axis c.At x.aT) ⟨axis,_⟩ x.bj).2.1+(ib axis x.bj _ _ _).val x.bj ch du V g (cJ (rc r axis c.At x.aT) ⟨axis,_⟩ x.bj).2.2))=_
   rw [hp];exact jF t1 (jF (h.ly _ _ (by omega) xR.2 xR.1) i2)
  have u2:u.ok x.bj G (rc r axis c.At x.aT):=by
   rw [hu];refine⟨h.ax,?_,?_,?_⟩
   ·rw [M4 h.ax];exact⟨by dsimp only;omega,by dsimp only;omega⟩
   ·rw [hp];exact t2
   ·rw [hp];exact i3
  obtain⟨a1,a2⟩:=ahead p c u _ p0 hc hn u1 u2
  have hr:ib axis x.bj (b8 r axis).b ((b8 r axis).a+p) ((c::cs).map (ic x (b8 r axis).a T))=(if(b8 r axis).a+p<(b8 r axis).a+c.At then PT.rip axis ((b8 r axis).a+c.At -x.bj) (.leaf 0 0) u else u):=by
   show ib axis x.bj (b8 r axis).b ((b8 r axis).a+p) ((⟨(b8 r axis).a+c.At,(b8 r axis).a+dG x c⟩,T c)::cs.map (ic x (b8 r axis).a T))=_
   rw [ib];dsimp only;rw [if_pos (show(b8 r axis).a+dG x c<(b8 r axis).b by omega),em,←hu]
  rw [hr];refine⟨⟨by dsimp only [ic];omega,?_,by dsimp only [ic];omega,fun _=>?_,fun q=>?_⟩,a1,a2⟩
  ·dsimp only [ic];unfold qW at hn;omega
  ·dsimp only [ic];rw [em];exact i1
  ·dsimp only [ic] at q;omega
theorem XR {x:cT} (hx:qV x) {p:Int} {cs:List de} {v:Int} (hf:tg x p cs v):p≤x.aT→((cs.length:Nat):Int)≤x.aT -p∧∀c∈cs,o_ x c:=by
 have hk:=hx.kerf
 induction hf with
 |stop=>intro p1;exact⟨by simp only [List.length_nil];omega,fun c hc=>by cases hc⟩
 |last hc hn he=>
  intro p1;have c1:=hc.pos;unfold qW at hn;refine⟨by simp only [List.length_cons,List.length_nil];omega,fun q hq=>?_⟩;rw [List.mem_singleton] at hq;rw [hq];exact hc
 |next hc hn he hf ih=>
  rename_i p c cs v;intro p1;have c1:=hc.pos;unfold qW at hn;have xR:gG x (dG x c)≤x.aT∧dG x c≤gG x (dG x c):=by unfold gG;omega
  obtain⟨i1,i2⟩:=ih xR.1;refine⟨by rw [List.length_cons];omega,fun q hq=>?_⟩;rcases List.mem_cons.1 hq with rfl|hq
  ·exact hc
  ·exact i2 q hq
theorem e9 {c:Bool} {x:Int} (h:(bif c then 9 else x)=0):c=false∧x=0:=by
 cases c with
 |false=>exact⟨rfl,h⟩
 |true=>exact absurd (show(9:Int)=0 from h) (by decide)
theorem uZ {s:cS} {r:da} (h:lV s r=0):(0≤s.bj∧s.bj≤20)∧(0≤s.Trim∧s.Trim≤20)∧(1≤s.dq∧s.dq≤2000)∧lV s ⟨0,0,r.dE⟩=0:=by
 unfold lV at h⊢;obtain⟨h1,h⟩:=e9 h;obtain⟨h2,h⟩:=e9 h;obtain⟨h3,h⟩:=e9 h;obtain⟨h4,h⟩:=e9 h;obtain⟨h5,h⟩:=e9 h;obtain⟨h6,h⟩:=e9 h;obtain⟨h7,h⟩:=e9 h;obtain⟨_,h⟩:=e9 h;obtain⟨_,h⟩:=e9 h;obtain⟨_,h⟩:=e9 h;obtain⟨_,h⟩:=e9 h;obtain⟨h8,h⟩:=e9 h;refine⟨?_,?_,?_,?_⟩
 ·have:=of_decide_eq_false h1;have:=of_decide_eq_false h2;omega
 ·have:=of_decide_eq_false h3;have:=of_decide_eq_false h4;omega
 ·have:=of_decide_eq_false h5;have:=of_decide_eq_false h6;omega
 ·rw [h1,h2,h3,h4,h5,h6,h7];dsimp only;rw [h8];rfl
structure Cx (l:List aV) (d:List Df) (c:List bh) (s:cS) (vr:da):Prop where
 low:lY l
 fD:lX l
 jR:jL l=some 0
 XS:j_ d=some 0
 k9:nk c=some 0
 ti:lV s vr=0
 len:c.length≤16
 M6:∀p∈c,rR p
def bo (l:List aV) (d:List Df) (c:List bh) (s:cS) (ba k:Int) (r:aJ):Sp×Int×Bool:=match aC c k with
 |some p=>(uC l d p r s.Step ba).getD (⟨0,0⟩,0,false)
 |none=>(⟨0,0⟩,0,false)
def GB (l:List aV) (d:List Df) (c:List bh) (s:cS) (ba k:Int) (r:aJ):Prop:=(bo l d c s ba k r).2.2=true
def nz (l:List aV) (s:cS) (r:aJ) (z:Sp):Int:=d_ r.X r.Y ⟨max 0 (U (z.a -s.Trim)),z.a⟩ l 0+d_ r.X r.Y ⟨z.b,min (U (z.b+s.Trim)) (bA l)⟩ l 0
section
variable{l:List aV} {d:List Df} {c:List bh} {s:cS} {vr:da}
theorem HZ {ba:Int} (h:Cx l d c s vr) {k:Int} {r:aJ} (hg:GB l d c s ba k r):∃p,aC c k=some p∧(0≤k∧k<c.length)∧uC l d p r s.Step ba=some (bo l d c s ba k r)∧acc l d p ⟨r.X,r.Y,(bo l d c s ba k r).1⟩=true:=by
 unfold GB at hg;cases hp:aC c k with
 |none=>
  unfold bo at hg;rw [hp] at hg;cases hg
 |some p=>
  obtain⟨o,ho,_,hb⟩:=Xg h.low d p r s.Step ba
  have e:bo l d c s ba k r=o:=by
   unfold bo;rw [hp];dsimp only;rw [ho];rfl
  rw [e] at hg⊢;have h0:=pz hp;have h1:=(List.getElem?_eq_some_iff.1 h0.2).1;exact⟨p,rfl,⟨h0.1,by omega⟩,ho,(anC hb hg).2⟩
theorem aon {x y a b:Int} (h:(x=a∧y=b)∨(x=b∧y=a)):(bif(x !=a) then(bif(x !=b) then some 20 else(bif(y !=a) then some 20 else some 0)) else(bif(y !=b) then(bif(x !=b) then some 20 else(bif(y !=a) then some 20 else some 0)) else some 0):Option Int)=some 0:=by
 rcases h with⟨rfl,rfl⟩|⟨rfl,rfl⟩
 ·simp
 ·simp only [bne_self_eq_false,cond_false];cases(x !=y)<;>cases(y !=x)<;>rfl
theorem aoo {ba:Int} (h:Cx l d c s vr) {k:Int} {r:aJ} (hg:GB l d c s ba k r):AK r k c=some 0:=by
 obtain⟨p,p1,p2,p3,p4⟩:=HZ h hg;obtain⟨a1,a2,_⟩:=anD p4;unfold AK;rw [decide_eq_false (by omega),cond_false,decide_eq_false (by omega),cond_false,p1,aN,fe,Mi,MK (by dsimp only at a1;omega),MK (by dsimp only at a2;omega)]
 have hk:nu p r.X r.Y=true:=by
  unfold acc at p4;simp only [Bool.and_eq_true] at p4;exact p4.2.2.2.2.1
 unfold nu at hk;dsimp only at a1 a2;rw [bu (n:=r.X.b -r.X.a) (by omega) (by omega),bu (n:=r.Y.b -r.Y.a) (by omega) (by omega)] at hk;refine aon ?_;simp only [Bool.or_eq_true,Bool.and_eq_true,beq_iff_eq] at hk;omega
theorem aoq {ba:Int} (h:Cx l d c s vr) {k:Int} {r:aJ} (hg:GB l d c s ba k r):uO r k=0:=by
 obtain⟨p,p1,p2,_⟩:=HZ h hg;have:=h.len;unfold uO;rw [decide_eq_false (by omega),cond_false,decide_eq_false (by omega)];rfl
end
def pV (e:bq×cB):Option gA:=if e.1.Kind=0 then some ⟨e.2.en,-1⟩ else if e.1.Kind=1 then some ⟨e.2.en,e.1.At⟩ else none
def nA (kerf:Int) (e:bq×cB):Option aJ:=if iN e.1.Kind=true then some (cJ e.2.en e.1 kerf).2.1 else none
def u0 (e:bq×cB):Option (Int×aJ):=if e.1.Kind=1 then some (e.1.At,e.2.en) else none
theorem M7 {α β:Type} (f:α→Option β) (l:List α) (a:α):(l++[a]).filterMap f=l.filterMap f++(f a).toList:=by
 rw [List.filterMap_append];cases h:f a<;>simp [h]
section
variable{p:dR} {kerf:Int} {G:Int→aJ→Prop} {t:PT}
theorem aor (hN:p.br=t.flat) (hn:t.flat.length≤127) (ht:t.ok kerf G p.Frame) (hA:xw p kerf=some 0):DX p kerf=some ((t.pl kerf p.Frame 1).filterMap pV,0):=by
 unfold DX;rw [hA,aN,show((0:Int)!=0)=false from rfl,cond_false]
 obtain⟨o,h1,rfl⟩:=MZ (fun i x s=>Hn p s i x) (fun q=>DW p kerf q.1 q.2.1 q.2.2) (fun _ _ _=>rfl) t hN hn ht (fun pr o=>o=pr.filterMap pV) (fun pr n x po o kF tx hJ=>by
  subst hJ
  have hlen:pr.length<t.flat.length:=by
   rw [←A8 kerf t p.Frame 1,kF];simp
  have mb:=List.length_filterMap_le pV pr;unfold Hn;rw [tx,aN,M7];unfold pV;dsimp only;by_cases k0:n.Kind=0
  ·rw [show(n.Kind==0)=true by simp [k0],cond_true,if_pos k0,jT (by simp only [List.length_cons,List.length_nil];unfold pV at mb;omega) (by simp only [List.length_cons,List.length_nil];unfold pV at mb;omega)]
   exact⟨_,rfl,rfl⟩
  ·rw [show(n.Kind==0)=false by simp [k0],cond_false,if_neg k0]
   by_cases k1:n.Kind=1
   ·rw [show(n.Kind==1)=true by simp [k1],cond_true,if_pos k1,jT (by simp only [List.length_cons,List.length_nil];unfold pV at mb;omega) (by simp only [List.length_cons,List.length_nil];unfold pV at mb;omega)]
    exact⟨_,rfl,rfl⟩
   ·rw [show(n.Kind==1)=false by simp [k1],cond_false,if_neg k1]
    exact⟨_,rfl,by simp⟩) [] rfl
 rw [h1];rfl
theorem aos (hN:p.br=t.flat) (hn:t.flat.length≤127) (ht:t.ok kerf G p.Frame) (hA:xw p kerf=some 0):D0 p kerf=some ((t.pl kerf p.Frame 1).filterMap (nA kerf),0):=by
 unfold D0;rw [hA,aN,show((0:Int)!=0)=false from rfl,cond_false]
 obtain⟨o,h1,rfl⟩:=MZ (fun i x s=>Hp p kerf s i x) (fun q=>DZ p kerf q.1 q.2.1 q.2.2) (fun _ _ _=>rfl) t hN hn ht (fun pr o=>o=pr.filterMap (nA kerf)) (fun pr n x po o kF tx hJ=>by
  subst hJ
  have hlen:pr.length<t.flat.length:=by
   rw [←A8 kerf t p.Frame 1,kF];simp
  have mb:=List.length_filterMap_le (nA kerf) pr;unfold Hp;rw [tx,aN,M7];unfold nA;dsimp only;by_cases k0:iN n.Kind=true
  ·rw [k0,cond_true,if_pos rfl,fe,jT (by simp only [List.length_cons,List.length_nil];unfold nA at mb;omega) (by simp only [List.length_cons,List.length_nil];unfold nA at mb;omega)];exact⟨_,rfl,rfl⟩
  ·rw [show iN n.Kind=false by simpa using k0,cond_false,if_neg (by simp)]
   exact⟨_,rfl,by simp⟩) [] rfl
 rw [h1];rfl
end
def PT.sm (kerf:Int) (fl:Int→aJ→Int) (fc:aJ→Int):PT→aJ→Int
 |.leaf k a,r=>if k=0 then 0 else fl a r
 |.rip k a s t,r=>s.sm kerf fl fc (cJ r ⟨k,a⟩ kerf).1+(fc (cJ r ⟨k,a⟩ kerf).2.1+t.sm kerf fl fc (cJ r ⟨k,a⟩ kerf).2.2)
theorem M8 {kerf:Int} {G:Int→aJ→Prop} (V:aJ→Int):∀(t:PT) (r:aJ) (v:Int),t.ok kerf G r→(((t.pl kerf r v).filterMap (nA kerf)).map V).sum=t.sm kerf (fun _ _=>0) V r
 |.leaf k a,r,v,h=>by
  have hk:iN k=false:=by rcases h with⟨rfl,_⟩|⟨rfl,_⟩<;>rfl
  show(([((⟨k,a⟩:bq),(⟨r,v⟩:cB))].filterMap (nA kerf)).map V).sum=if k=0 then 0 else 0
  have:nA kerf ((⟨k,a⟩:bq),(⟨r,v⟩:cB))=none:=by unfold nA;rw [if_neg (by rw [hk];simp)]
  rw [List.filterMap_cons,this];simp
 |.rip k a s t,r,v,h=>by
  obtain⟨h1,_,h3,h4⟩:=h;have hk:=(HN k).2 h1;show((((⟨k,a⟩:bq),(⟨r,v⟩:cB))::(s.pl kerf _ _++t.pl kerf _ _)).filterMap (nA kerf)|>.map V).sum=_
  have:nA kerf ((⟨k,a⟩:bq),(⟨r,v⟩:cB))=some (cJ r ⟨k,a⟩ kerf).2.1:=by unfold nA;rw [if_pos hk]
  rw [List.filterMap_cons,this];dsimp only;rw [List.map_cons,List.sum_cons,List.filterMap_append,List.map_append,List.sum_append,M8 V s _ _ h3,M8 V t _ _ h4];show _=s.sm kerf _ V _+(V _+t.sm kerf _ V _)
  omega
theorem M9 {kerf:Int} {G:Int→aJ→Prop} (f:Int→aJ→Int):∀(t:PT) (r:aJ) (v:Int),t.ok kerf G r→(((t.pl kerf r v).filterMap u0).map fun q=>f q.1 q.2).sum=t.sm kerf f (fun _=>0) r
 |.leaf k a,r,v,h=>by
  show(([((⟨k,a⟩:bq),(⟨r,v⟩:cB))].filterMap u0).map fun q=>f q.1 q.2).sum=if k=0 then 0 else f a r
  rcases h with⟨rfl,_⟩|⟨rfl,_⟩
  ·rfl
  ·show f a r+0=f a r
   omega
 |.rip k a s t,r,v,h=>by
  obtain⟨h1,_,h3,h4⟩:=h;show((((⟨k,a⟩:bq),(⟨r,v⟩:cB))::(s.pl kerf _ _++t.pl kerf _ _)).filterMap u0|>.map fun q=>f q.1 q.2).sum=_
  have:u0 ((⟨k,a⟩:bq),(⟨r,v⟩:cB))=none:=by unfold u0;rw [if_neg (by dsimp only;omega)]
  rw [List.filterMap_cons,this];dsimp only;rw [List.filterMap_append,List.map_append,List.sum_append,M9 f s _ _ h3,M9 f t _ _ h4];show _=s.sm kerf f _ _+(0+t.sm kerf f _ _)
  omega
theorem M_ {kerf:Int} (f:Int→aJ→Int) (V:aJ→Int):∀(t:PT) (r:aJ),t.sm kerf (fun _ _=>0) V r+t.sm kerf f (fun _=>0) r=t.sm kerf f V r
 |.leaf k a,r=>by
  show(if k=0 then 0 else 0)+(if k=0 then 0 else f a r)=if k=0 then 0 else f a r
  by_cases h:k=0<;>simp [h]
 |.rip k a s t,r=>by
  have h1:=M_ f V s (cJ r ⟨k,a⟩ kerf).1 (kerf:=kerf);have h2:=M_ f V t (cJ r ⟨k,a⟩ kerf).2.2 (kerf:=kerf);show s.sm kerf _ V _+(V _+t.sm kerf _ V _)+(s.sm kerf f _ _+(0+t.sm kerf f _ _))=s.sm kerf f V _+(V _+t.sm kerf f V _)
  omega
theorem Na {kerf n:Int} (f:Int→aJ→Int):∀(t:PT) (r:aJ),t.sm kerf (fun k r=>n*f k r) (fun _=>0) r=n*t.sm kerf f (fun _=>0) r
 |.leaf k a,r=>by
  show(if k=0 then 0 else n*f a r)=n*(if k=0 then 0 else f a r)
  by_cases h:k=0<;>simp [h]
 |.rip k a s t,r=>by
  show s.sm kerf _ _ _+(0+t.sm kerf _ _ _)=n*(s.sm kerf f _ _+(0+t.sm kerf f _ _))
  rw [Na f s,Na f t];simp only [Int.mul_add,Int.mul_zero]
theorem aot {l:List aV} {kerf:Int} (hk:0≤kerf∧kerf≤20) {r:aJ} {k a:Int} (hr:xK r) (hx:k=2∨k=3) (ha:(b8 r k).a<a∧a<(b8 r k).b):V0 l r=V0 l (cJ r ⟨k,a⟩ kerf).1+(V0 l (cJ r ⟨k,a⟩ kerf).2.1+V0 l (cJ r ⟨k,a⟩ kerf).2.2):=by
 obtain⟨g1,g2,g3,g4,g5,g6⟩:=hr;unfold cJ;simp only [fe];unfold V0;rcases hx with rfl|rfl
 ·have ha:r.X.a<a∧a<r.X.b:=ha;rw [bu (n:=a+kerf) (by omega) (by omega)];show d_ ⟨r.X.a,r.X.b⟩ r.Y _ l 0=d_ ⟨r.X.a,a⟩ r.Y _ l 0+(d_ ⟨a,min (a+kerf) r.X.b⟩ r.Y _ l 0+d_ ⟨min (a+kerf) r.X.b,r.X.b⟩ r.Y _ l 0)
  rw [HL (p:=a) (by omega) (by omega),HL (a:=a) (p:=min (a+kerf) r.X.b) (by omega) (by omega)]
 ·have ha:r.Y.a<a∧a<r.Y.b:=ha;rw [bu (n:=a+kerf) (by omega) (by omega)];show d_ r.X ⟨r.Y.a,r.Y.b⟩ _ l 0=d_ r.X ⟨r.Y.a,a⟩ _ l 0+(d_ r.X ⟨a,min (a+kerf) r.Y.b⟩ _ l 0+d_ r.X ⟨min (a+kerf) r.Y.b,r.Y.b⟩ _ l 0)
  rw [HM (p:=a) (by omega) (by omega),HM (a:=a) (p:=min (a+kerf) r.Y.b) (by omega) (by omega)]
theorem Nb {kerf ch du:Int} {V:aJ→Int} {G:Int→aJ→Prop} {pt bv dz:Int→aJ→Int} (hk:0≤kerf∧kerf≤20)
  (hV:∀(r:aJ) (k a:Int),xK r→(k=2∨k=3)→((b8 r k).a<a∧a<(b8 r k).b)→V r=V (cJ r ⟨k,a⟩ kerf).1+(V (cJ r ⟨k,a⟩ kerf).2.1+V (cJ r ⟨k,a⟩ kerf).2.2)):∀(t:PT) (r:aJ),xK r→t.ok kerf G r→
  t.val kerf ch du V (fun k r=>1000000*pt k r+du*dz k r+ch*(V r -bv k r -dz k r)) r=1000000*t.sm kerf pt (fun _=>0) r+du*t.sm kerf dz V r+ch*(V r -t.sm kerf bv (fun _=>0) r -t.sm kerf dz V r)
 |.leaf k a,r,hr,h=>by
  show(if k=0 then ch*V r else 1000000*pt a r+du*dz a r+ch*(V r -bv a r -dz a r))=1000000*(if k=0 then 0 else pt a r)+du*(if k=0 then 0 else dz a r)+ch*(V r -(if k=0 then 0 else bv a r) -(if k=0 then 0 else dz a r))
  by_cases pq:k=0
  ·simp [pq]
  ·simp [pq]
 |.rip k a s t,r,hr,h=>by
  obtain⟨h1,h2,h3,h4⟩:=h;obtain⟨_,q1,q2⟩:=anE (n:=⟨k,a⟩) hk hr h2;have e1:=Nb (ch:=ch) (du:=du) (pt:=pt) (bv:=bv) (dz:=dz) hk hV s _ q1 h3;have e2:=Nb (ch:=ch) (du:=du) (pt:=pt) (bv:=bv) (dz:=dz) hk hV t _ q2 h4;have e3:=hV r k a hr h1 h2;show s.val kerf ch du V _ (cJ r ⟨k,a⟩ kerf).1+(du*V (cJ r ⟨k,a⟩ kerf).2.1+t.val kerf ch du V _ (cJ r ⟨k,a⟩ kerf).2.2)=1000000*(s.sm kerf pt _ (cJ r ⟨k,a⟩ kerf).1+(0+t.sm kerf pt _ (cJ r ⟨k,a⟩ kerf).2.2))+du*(s.sm kerf dz V (cJ r ⟨k,a⟩ kerf).1+(V (cJ r ⟨k,a⟩ kerf).2.1+t.sm kerf dz V (cJ r ⟨k,a⟩ kerf).2.2))+ch*(V r -(s.sm kerf bv _ (cJ r ⟨k,a⟩ kerf).1+(0+t.sm kerf bv _ (cJ r ⟨k,a⟩ kerf).2.2)) -(s.sm kerf dz V (cJ r ⟨k,a⟩ kerf).1+(V (cJ r ⟨k,a⟩ kerf).2.1+t.sm kerf dz V (cJ r ⟨k,a⟩ kerf).2.2)))
  rw [e1,e2,e3];generalize s.sm kerf pt _ (cJ r ⟨k,a⟩ kerf).1=p1;generalize t.sm kerf pt _ (cJ r ⟨k,a⟩ kerf).2.2=p2;generalize s.sm kerf bv _ (cJ r ⟨k,a⟩ kerf).1=b1;generalize t.sm kerf bv _ (cJ r ⟨k,a⟩ kerf).2.2=b2;generalize s.sm kerf dz V (cJ r ⟨k,a⟩ kerf).1=d1;generalize t.sm kerf dz V (cJ r ⟨k,a⟩ kerf).2.2=d2;generalize V (cJ r ⟨k,a⟩ kerf).1=v1;generalize V (cJ r ⟨k,a⟩ kerf).2.1=vc;generalize V (cJ r ⟨k,a⟩ kerf).2.2=v2;rw [show v1+(vc+v2) -(b1+(0+b2)) -(d1+(vc+d2))=(v1 -b1 -d1)+(v2 -b2 -d2) by omega]
  simp only [Int.mul_add];omega
section
variable{l:List aV} {d:List Df} {c:List bh} {s:cS} {vr:da} {p:dR} {t:PT}
theorem aou {ba:Int} (h:Cx l d c s vr) (hF:nq p.Frame=some true) (hN:p.br=t.flat) (hn:t.flat.length≤127) (ht:t.ok s.bj (GB l d c s ba) p.Frame):Hl p s.bj c=some 0:=
 XM (brd:=fun r v=>AK r v c) (body:=fun i x q=>LX p c q.1 q.2 i x) (step:=fun q=>DV p s.bj c q.1 q.2.1 q.2.2.1 q.2.2.2) (fun _ _ _=>rfl) (fun _ _ _=>rfl) rfl hF (uZ h.ti).1 (fun _ _ hg=>aoo h hg) t hN hn ht
theorem XT {ba:Int} (h:Cx l d c s vr) (hF:nq p.Frame=some true) (hN:p.br=t.flat) (hn:t.flat.length≤127) (ht:t.ok s.bj (GB l d c s ba) p.Frame):xw p s.bj=some 0:=
 XM (brd:=fun r v=>some (uO r v)) (body:=fun i x q=>LN p q.1 q.2 i x) (step:=fun q=>DT p s.bj q.1 q.2.1 q.2.2.1 q.2.2.2) (fun _ _ _=>rfl) (fun _ _ _=>rfl) rfl hF (uZ h.ti).1 (fun _ _ hg=>congrArg some (aoq h hg)) t hN hn ht
theorem XU {ba:Int} (h:Cx l d c s vr) (hF:nq p.Frame=some true) (hN:p.br=t.flat) (hn:t.flat.length≤127) (ht:t.ok s.bj (GB l d c s ba) p.Frame):AL l d c p s vr=some 0:=by
 have z:((0:Int)!=0)=false:=rfl;unfold AL Hm;rw [xC,h.jR,aN,z,cond_false,h.XS,aN,z,cond_false,h.k9,aN,z,cond_false,h.ti,z,cond_false,aou h hF hN hn ht];rfl
end
def u4 (e:gA):Option (Int×aJ):=if e.jW=-1 then none else some (e.jW,e.pC)
def EJ (l:List aV) (d:List Df) (c:List bh) (s:cS) (ba:Int) (q:Int×aJ):Int×Bx×Int:=(q.1,⟨q.2.X,q.2.Y,(bo l d c s ba q.1 q.2).1⟩,(bo l d c s ba q.1 q.2).2.1)
def A_ (u:gQ):Int×Bx×Int:=(u.jW,u.dX,u.sr)
section
variable{l:List aV} {d:List Df} {c:List bh} {s:cS} {vr:da} {p:dR} {t:PT}
theorem XV {α β:Type} {f g:α→Option β}:∀{l:List α},(∀e∈l,f e=g e)→l.filterMap f=l.filterMap g
 |[],_=>rfl
 |a::l,h=>by rw [List.filterMap_cons,List.filterMap_cons,h a (List.mem_cons_self ..),XV fun e he=>h e (List.mem_cons_of_mem _ he)]
theorem XW {α β:Type} (f:α→Option β) {L:List α} {j:Nat} (h:j<L.length):(L.take (j+1)).filterMap f=(L.take j).filterMap f++(f L[j]).toList:=by
 rw [List.take_succ_eq_append_getElem h,M7]
theorem aov (h:Cx l d c s vr) (hF:nq p.Frame=some true) (hN:p.br=t.flat) (hn:t.flat.length≤127) (ht:t.ok s.bj (GB l d c s vr.dE) p.Frame):bH (DY l d c p s vr.dE) (fun r=>r.2=0∧r.1.map A_=((t.pl s.bj p.Frame 1).filterMap u0).map (EJ l d c s vr.dE)∧r.1.length≤127):=by
 have h0:Cx l d c s ⟨0,0,vr.dE⟩:=⟨h.low,h.fD,h.jR,h.XS,h.k9,(uZ h.ti).2.2.2,h.len,h.M6⟩;have z:((0:Int)!=0)=false:=rfl;unfold DY;rw [XU h0 hF hN hn ht,aN,z,cond_false,aor hN hn ht (XT h hF hN hn ht),aN,z,cond_false];obtain⟨L,hL⟩:∃L,L=(t.pl s.bj p.Frame 1).filterMap pV:=⟨_,rfl⟩
 have lh:=HX t p.Frame 1 ht (by obtain⟨n,tE⟩:=uY t;omega)
 have yl:L.length≤127:=by
  have:=List.length_filterMap_le pV (t.pl s.bj p.Frame 1);rw [A8,←hL] at this;omega
 have XX:∀e∈L,e.jW≠-1→GB l d c s vr.dE e.jW e.pC:=by
  intro e he ep;rw [hL,List.mem_filterMap] at he;obtain⟨q,q1,q2⟩:=he;unfold pV at q2;split at q2
  ·cases q2;exact absurd rfl ep
  ·split at q2
   ·rename_i k1;cases q2;exact(lh q q1).2 k1
   ·cases q2
 have yE:L.filterMap u4=(t.pl s.bj p.Frame 1).filterMap u0:=by
  rw [hL,List.filterMap_filterMap];refine XV fun e he=>?_
  obtain⟨_,a2⟩:=lh e he;unfold pV u0 u4;by_cases k0:e.1.Kind=0
  ·rw [if_pos k0,if_neg (by omega)];rfl
  ·rw [if_neg k0];by_cases k1:e.1.Kind=1
   ·rw [if_pos k1,if_pos k1];obtain⟨_,_,b2,_⟩:=HZ h (a2 k1);show(if e.1.At=-1 then none else some (e.1.At,e.2.en))=_
    rw [if_neg (by omega)]
   ·rw [if_neg k1,if_neg k1];rfl
 rw [←yE,←hL];refine aH (Q:=fun z=>∃w:List gQ,z=.inl w∧w.map A_=(L.filterMap u4).map (EJ l d c s vr.dE)∧w.length≤127) ?_ ?_
 ·refine di L.length (fun q:Int×List gQ=>q.1) (fun q=>q.2.map A_=((L.take q.1.toNat).filterMap u4).map (EJ l d c s vr.dE)∧((q.2.length:Nat):Int)≤q.1) (fun q j hI hq hj=>?_) (fun q hI hq=>?_) ⟨rfl,Int.le_refl _⟩ rfl (Nat.zero_le _)
  ·obtain⟨v,w⟩:=q;obtain⟨i1,i2⟩:=hI;dsimp only at i1 i2 hq;subst hq;rw [Int.toNat_natCast] at i1;unfold AN;refine ei rfl hj (aH (dg hj) ?_);rintro e rfl;rw [bK (by omega)];by_cases hp:L[j].jW=-1
   ·rw [show(L[j].jW !=-1)=false by simp [hp],cond_false]
    refine aO (.inl ⟨_,rfl,⟨?_,by dsimp only;omega⟩,rfl⟩);dsimp only;rw [Int.toNat_natCast,XW u4 hj,i1];unfold u4;rw [if_pos hp];simp
   ·rw [show(L[j].jW !=-1)=true by simp [hp],cond_true]
    obtain⟨pr,b1,b2,b3,b4⟩:=HZ h (XX _ (List.getElem_mem hj) hp);have ec:(bo l d c s vr.dE L[j].jW L[j].pC).2.2=true:=XX _ (List.getElem_mem hj) hp;unfold L8;rw [b1,aN,b3,aN,ec,cond_true,fe,jT (by simp only [List.length_cons,List.length_nil];omega) (by simp only [List.length_cons,List.length_nil];omega),aN,aN,Sum.elim_inl];refine aO (.inl ⟨_,rfl,⟨?_,by dsimp only;rw [List.length_append,List.length_cons,List.length_nil];omega⟩,rfl⟩);dsimp only;rw [Int.toNat_natCast,XW u4 hj,List.map_append,List.map_append,i1];congr 1;unfold u4;rw [if_neg hp];rfl
  ·obtain⟨v,w⟩:=q;obtain⟨i1,i2⟩:=hI;dsimp only at i1 i2 hq;subst hq;unfold AN;refine ea rfl ⟨w,rfl,?_,by omega⟩;rw [i1,Int.toNat_natCast,List.take_length]
 ·rintro z ⟨w,rfl,w1,w2⟩;exact aO ⟨rfl,w1,w2⟩
theorem H0 {α:Type} (f:α→Int) {L:List α} {j:Nat} (h:j<L.length):((L.take (j+1)).map f).sum=((L.take j).map f).sum+f L[j]:=by
 rw [List.take_succ_eq_append_getElem h,List.map_append,List.sum_append];simp
theorem aow (h:Cx l d c s vr) (hF:nq p.Frame=some true) (hN:p.br=t.flat) (hn:t.flat.length≤127) (ht:t.ok s.bj (GB l d c s vr.dE) p.Frame):
  bH (xz l d c p s vr) (fun r=>r.2=0∧r.1.Value=U (1000000*t.sm s.bj (fun k r=>(bo l d c s vr.dE k r).2.1) (fun _=>0) p.Frame+(vr.dF*(iz l -t.sm s.bj (fun k r=>d_ r.X r.Y (bo l d c s vr.dE k r).1 l 0) (fun _=>0) p.Frame -t.sm s.bj (fun k r=>nz l s r (bo l d c s vr.dE k r).1) (V0 l) p.Frame)+vr.cO*t.sm s.bj (fun k r=>nz l s r (bo l d c s vr.dE k r).1) (V0 l) p.Frame))):=by
 have z:((0:Int)!=0)=false:=rfl;unfold xz;rw [XU h hF hN hn ht,aN,z,cond_false];refine aH (aov h hF hN hn ht) ?_;rintro⟨w,e⟩ ⟨rfl,w1,w2⟩;dsimp only at w1 w2;rw [z,cond_false,aos hN hn ht (XT h hF hN hn ht),aN,z,cond_false,AS,length_eq h.fD h.jR,aN,MM h.fD h.jR,aN];obtain⟨C,hC⟩:∃C,C=(t.pl s.bj p.Frame 1).filterMap (nA s.bj):=⟨_,rfl⟩
 have ES:C.length≤127:=by
  have:=List.length_filterMap_le (nA s.bj) (t.pl s.bj p.Frame 1);rw [A8,←hC] at this;omega
 have aox:(C.map (V0 l)).sum=t.sm s.bj (fun _ _=>0) (V0 l) p.Frame:=by rw [hC];exact M8 (V0 l) t p.Frame 1 ht
 have Nc:∀F:Int×Bx×Int→Int,(w.map fun u=>F (A_ u)).sum=t.sm s.bj (fun k r=>F (EJ l d c s vr.dE (k,r))) (fun _=>0) p.Frame:=by
  intro F;rw [←M9 (fun k r=>F (EJ l d c s vr.dE (k,r))) t p.Frame 1 ht];have:(w.map fun u=>F (A_ u))=(w.map A_).map F:=by rw [List.map_map];rfl
  rw [this,w1,List.map_map];rfl
 rw [←hC]
 have A:bH (bb (fun q:Int×fL=>xx l (C,0) (bA l) q.1 q.2) (0,(⟨iz l,0,0,0,0⟩:fL))) (fun y=>(y.Log=iz l∧y.lj=0∧y.Value=0)∧U y.cO=U (C.map (V0 l)).sum):=by
  refine di C.length (fun q:Int×fL=>q.1) (fun q=>(q.2.Log=iz l∧q.2.lj=0∧q.2.Value=0)∧U q.2.cO=U ((C.take q.1.toNat).map (V0 l)).sum) (fun q j hI hq hj=>?_) (fun q hI hq=>?_) ⟨⟨rfl,rfl,rfl⟩,rfl⟩ rfl (Nat.zero_le _)
  ·obtain⟨v,y⟩:=q;obtain⟨i1,i2⟩:=hI;dsimp only at i1 i2 hq;subst hq;rw [Int.toNat_natCast] at i2;unfold xx;refine ei rfl hj (aH (dg hj) ?_);rintro e rfl;rw [fe,rQ h.fD h.jR,aN,bK (by omega)];refine aO (.inl ⟨_,rfl,⟨i1,?_⟩,rfl⟩);dsimp only;rw [Int.toNat_natCast,H0 (V0 l) hj,eZ];exact jF i2 rfl
  ·obtain⟨v,y⟩:=q;obtain⟨i1,i2⟩:=hI;dsimp only at i1 i2 hq;subst hq;unfold xx;refine ea rfl ⟨i1,?_⟩;rw [Int.toNat_natCast,List.take_length] at i2;exact i2
 refine aH A (fun y hy=>?_)
 have B:bH (bb (fun q:Int×fL=>xy l s (w,0) (bA l) q.1 q.2) (0,y)) (fun y=>y.Log=iz l∧U y.lj=U (w.map fun u=>d_ u.dX.x u.dX.y u.dX.z l 0).sum∧U y.cO=U ((C.map (V0 l)).sum+(w.map fun u=>nz l s ⟨u.dX.x,u.dX.y⟩ u.dX.z).sum)∧U y.Value=U (w.map fun u=>1000000*u.sr).sum):=by
  refine di w.length (fun q:Int×fL=>q.1) (fun q=>q.2.Log=iz l∧U q.2.lj=U ((w.take q.1.toNat).map fun u=>d_ u.dX.x u.dX.y u.dX.z l 0).sum∧U q.2.cO=U ((C.map (V0 l)).sum+((w.take q.1.toNat).map fun u=>nz l s ⟨u.dX.x,u.dX.y⟩ u.dX.z).sum)∧U q.2.Value=U ((w.take q.1.toNat).map fun u=>1000000*u.sr).sum) (fun q j hI hq hj=>?_) (fun q hI hq=>?_) ⟨hy.1.1,by rw [hy.1.2.1];rfl,by rw [hy.2];simp,by rw [hy.1.2.2];rfl⟩ rfl (Nat.zero_le _)
  ·obtain⟨v,y⟩:=q;obtain⟨i1,i2,i3,i4⟩:=hI;dsimp only at i1 i2 i3 i4 hq;subst hq;rw [Int.toNat_natCast] at i2 i3 i4;unfold xy;refine ei rfl hj (aH (dg hj) ?_);rintro e rfl;simp only [fe];rw [rQ h.fD h.jR,aN,rQ h.fD h.jR,aN,rQ h.fD h.jR,aN,bK (by omega)];refine aO (.inl ⟨_,rfl,⟨i1,?_,?_,?_⟩,rfl⟩)
   ·dsimp only;rw [Int.toNat_natCast,H0 _ hj,eZ];exact jF i2 rfl
   ·dsimp only;rw [Int.toNat_natCast,H0 _ hj,eZ,←Int.add_assoc];unfold nz;rw [←Int.add_assoc];exact jF ((eZ _).trans (jF i3 rfl)) rfl
   ·dsimp only;rw [Int.toNat_natCast,H0 _ hj,eZ];exact jF i4 (eZ _)
  ·obtain⟨v,y⟩:=q;obtain⟨i1,i2,i3,i4⟩:=hI;dsimp only at i1 i2 i3 i4 hq;subst hq;rw [Int.toNat_natCast,List.take_length] at i2 i3 i4;unfold xy;exact ea rfl ⟨i1,i2,i3,i4⟩
 refine aH B (fun y hy=>aO ⟨rfl,?_⟩);obtain⟨y1,y2,y3,y4⟩:=hy;dsimp only;have eB:=Nc fun q=>d_ q.2.1.x q.2.1.y q.2.1.z l 0
 have eD:=Nc fun q=>nz l s ⟨q.2.1.x,q.2.1.y⟩ q.2.1.z
 have eP:=Nc fun q=>1000000*q.2.2
 have e1:(w.map fun u=>d_ u.dX.x u.dX.y u.dX.z l 0).sum=t.sm s.bj (fun k r=>d_ r.X r.Y (bo l d c s vr.dE k r).1 l 0) (fun _=>0) p.Frame:=eB
 have e2:(C.map (V0 l)).sum+(w.map fun u=>nz l s ⟨u.dX.x,u.dX.y⟩ u.dX.z).sum=t.sm s.bj (fun k r=>nz l s r (bo l d c s vr.dE k r).1) (V0 l) p.Frame:=by
  have eD':(w.map fun u=>nz l s ⟨u.dX.x,u.dX.y⟩ u.dX.z).sum=t.sm s.bj (fun k r=>nz l s r (bo l d c s vr.dE k r).1) (fun _=>0) p.Frame:=eD;rw [aox,eD',M_]
 have e3:(w.map fun u=>1000000*u.sr).sum=1000000*t.sm s.bj (fun k r=>(bo l d c s vr.dE k r).2.1) (fun _=>0) p.Frame:=by
  have eP':(w.map fun u=>1000000*u.sr).sum=t.sm s.bj (fun k r=>1000000*(bo l d c s vr.dE k r).2.1) (fun _=>0) p.Frame:=eP;rw [eP',Na]
 rw [e1] at y2;rw [e2] at y3;rw [e3] at y4;rw [y1];have k:U (U (iz l -y.lj) -y.cO)=U (iz l -t.sm s.bj (fun k r=>d_ r.X r.Y (bo l d c s vr.dE k r).1 l 0) (fun _=>0) p.Frame -t.sm s.bj (fun k r=>nz l s r (bo l d c s vr.dE k r).1) (V0 l) p.Frame):=xO ((eZ _).trans (xO rfl y2)) y3;exact jF y4 ((eZ _).trans (jF ((eZ _).trans (EC _ ((eZ _).trans k))) ((eZ _).trans (EC _ y3))))
end
theorem aoA (s:List Int) (hs:s.length≤1000) (h0:s≠[]):bH (Dp s) (fun v=>v≠[]∧v.length≤s.length∧∀q∈v,q∈s):=by
 have nE:=List.length_pos_iff.2 h0;unfold Dp;refine bl (fun _=>aO ⟨h0,Nat.le_refl _,fun _ h=>h⟩) (fun h2=>?_);have h2:=of_decide_eq_false h2;refine aH (Q:=fun z=>(∃v,z=.inl v∧v≠[]∧v.length≤s.length∧∀q∈v,q∈s)∨z=.inr ()) ?_ ?_
 ·refine di s.length (fun q:Int=>q) (fun x=>1≤x) (fun x k h1 hx hk=>?_) (fun x _ hx=>?_) (j0:=1) (Int.le_refl 1) rfl (by omega)
  ·unfold Ai;subst hx;refine ei rfl hk (aH (Q:=fun z=>(∃v:List Int,z=.inl (.inr (.inl v))∧v≠[]∧v.length≤s.length∧∀q∈v,q∈s)∨z=.inr ()) ?_ ?_)
   ·refine aH (dg hk) (fun e _=>?_);rw [bu (n:=(k:Int) -1) (by omega) (by omega)];refine aH (fy (xs:=s) (by omega) (by omega)) (fun e1 _=>bl (fun _=>?_) (fun _=>aO (.inr rfl)));rw [decide_eq_true (show(0:Int)≤k by omega),decide_eq_true (show(k:Int)<((s.length:Nat):Int) by omega),decide_eq_true (show(k:Int)≤((s.length:Nat):Int) by omega),decide_eq_true (Int.le_refl ((s.length:Nat):Int))]
    simp only [Bool.and_self,cond_true];refine aH (Q:=fun w:List Int×Int=>(w.1.length=s.length∧∀q∈w.1,q∈s)∧(k:Int)≤w.2∧w.2<((s.length:Nat):Int)) ?_ ?_
    ·refine di (s.length -k) (fun q:Int×Int×List Int=>q.2.1) (fun x=>(x.2.2.length=s.length∧∀q∈x.2.2,q∈s)∧(k:Int)≤x.1∧x.1≤(k:Int)+x.2.1 -1∧1≤x.2.1) (fun x j hI hx hj=>?_) (fun x hI hx=>?_) (j0:=1) ⟨⟨rfl,fun q h=>h⟩,Int.le_refl _,by show(k:Int)≤(k:Int)+1 -1;omega,Int.le_refl 1⟩ rfl (by omega)
     ·obtain⟨⟨i1,i2⟩,i3,i4,i5⟩:=hI;obtain⟨a,b,xs⟩:=x;dsimp only at i1 i2 i3 i4 i5 hx;subst hx;unfold Ah;dsimp only;have hm:((((s.length:Nat):Int).toNat -(k:Int).toNat:Nat):Int)=((s.length -k:Nat):Int):=by omega
      rw [hm,decide_eq_true (show(j:Int)<((s.length -k:Nat):Int) by omega),cond_true,decide_eq_true (show(0:Int)≤k by omega),decide_eq_true (show(0:Int)≤j by omega),decide_eq_true (show(j:Int)<((s.length:Nat):Int) -(k:Int) by omega),bu (n:=(j:Int) -1) (by omega) (by omega),decide_eq_true (show(0:Int)≤(j:Int) -1 by omega),decide_eq_true (show(j:Int) -1<((s.length:Nat):Int) -(k:Int) by omega)]
      simp only [Bool.and_self,cond_true];refine aH (fy (xs:=xs) (by omega) (by omega)) (fun e2 _=>aH (fy (xs:=xs) (by omega) (by omega)) (fun e3 _=>bl (fun _=>aH (fy (xs:=xs) (by omega) (by omega)) (fun e4 EB=>aH (fy (xs:=xs) (by omega) (by omega)) (fun e5 _=>aO (.inl ⟨_,rfl,⟨⟨?_,fun q hq=>?_⟩,?_,?_,?_⟩,?_⟩)))) (fun _=>aO (.inl ⟨_,rfl,⟨⟨i1,i2⟩,i3,?_,?_⟩,?_⟩))))
      ·dsimp only;rw [jh];exact i1
      ·rcases List.mem_or_eq_of_mem_set hq with hq|hq
       ·exact i2 q hq
       ·rw [hq];exact i2 e4 EB
      all_goals dsimp only
      ·rw [bu (by omega) (by omega)];omega
      ·rw [bu (n:=a+1) (by omega) (by omega),bK (by omega)];omega
      ·rw [bK (by omega)];omega
      ·rw [bK (by omega)]
      ·rw [bK (by omega)];omega
      ·rw [bK (by omega)];omega
      ·rw [bK (by omega)]
     ·unfold Ah;rw [decide_eq_false (by omega)];exact aO ⟨_,rfl,hI.1,hI.2.1,by have:=hI.2.2.1;dsimp only;omega⟩
    ·rintro⟨xs,a⟩ ⟨⟨i1,i2⟩,i3,i4⟩;dsimp only at i1 i2 i3 i4⊢;obtain⟨n,rfl⟩:=Int.eq_ofNat_of_zero_le (show 0≤a by omega)
     rw [i1,decide_eq_true (show(0:Int)≤n by omega),decide_eq_true (show(n:Int)<((s.length:Nat):Int) by omega),decide_eq_true (show(n:Int)≤((s.length:Nat):Int) by omega),decide_eq_true (Int.le_refl ((s.length:Nat):Int))]
     simp only [Bool.and_self,cond_true];have oy:n<s.length:=by omega
     rw [show((s.length:Nat):Int).toNat=s.length from rfl,show((n:Nat):Int).toNat=n from rfl,show Nat.ble (n+(s.length -n)) s.length=true from Nat.ble_eq_true_of_le (by omega),show Nat.blt 0 (s.length -n)=true from Nat.ble_eq_true_of_le (by omega)]
     simp only [Bool.and_self,cond_true];refine rS (aH (EA (by omega) ?_) ?_)
     ·unfold oP;simp;omega
     ·rintro w rfl
      have e:(oP (0:Int) xs n (s.length -n)).take ((n:Nat):Int).toNat=xs.take n:=by
       unfold oP;rw [show((n:Nat):Int).toNat=n from rfl,List.append_assoc,List.take_append_of_le_length (by simp;omega),List.take_take,Nat.min_self]
      rw [e];refine aO (.inl ⟨_,rfl,?_,?_,fun q hq=>i2 q (List.mem_of_mem_take hq)⟩)
      ·intro h;have:=congrArg List.length h;rw [List.length_take,List.length_nil] at this;omega
      ·rw [List.length_take];omega
   ·rintro z (⟨v,rfl,hv⟩|rfl)
    ·exact aO (.inr ⟨_,rfl,.inl ⟨v,rfl,hv⟩⟩)
    ·exact aO (.inl ⟨_,rfl,by rw [bK (by omega)];omega,bK (by omega)⟩)
  ·unfold Ai;exact ea hx (.inr rfl)
 ·rintro z (⟨v,rfl,hv⟩|rfl)
  ·exact aO hv
  ·exact aO ⟨h0,Nat.le_refl _,fun _ h=>h⟩
theorem aoB (xs:List Int) (h:xs.length≤1000):bH (Dl xs 0 ((xs.length:Nat):Int)) (fun v=>v.length=xs.length∧∀q∈v,q∈xs):=by
 unfold Dl;by_cases h0:xs.length=0
 ·refine⟨xs,fr ?_,rfl,fun q hq=>hq⟩;unfold wV;rw [decide_eq_false (by rw [bu (by omega) (by omega)];omega)];rfl
 refine di xs.length (fun q:Int×List Int=>q.1) (fun q=>q.2.length=xs.length∧∀e∈q.2,e∈xs) (fun q i hI hq hi=>?_) (fun q hI hq=>?_) ⟨rfl,fun q hq=>hq⟩ (j0:=1) rfl (by omega)
 ·obtain⟨v,ys⟩:=q;obtain⟨i1,i2⟩:=hI;dsimp only at i1 i2 hq;subst hq;unfold wV;dsimp only;rw [decide_eq_true (by omega),cond_true,bK (by omega)];refine aH (Q:=fun w:List Int=>w.length=xs.length∧∀e∈w,e∈xs) ?_ (fun w hw=>aO (.inl ⟨_,rfl,hw,rfl⟩));refine p_ (step:=fun q:Int×List Int=>Ag 0 q.1 q.2) (fun q=>(0≤q.1∧q.1<xs.length)∧q.2.length=xs.length∧∀e∈q.2,e∈xs) (fun q=>q.1.toNat) (fun w:List Int=>w.length=xs.length∧∀e∈w,e∈xs) (fun q hq=>?_) _ ⟨⟨by dsimp only;omega,by dsimp only;omega⟩,i1,i2⟩;obtain⟨j,zs⟩:=q;obtain⟨⟨j1,j2⟩,j3,j4⟩:=hq;dsimp only at j1 j2 j3 j4;unfold Ag;dsimp only;by_cases hj:0<j
  ·rw [decide_eq_true hj,cond_true,bu (n:=j -1) (by omega) (by omega)];obtain⟨e,g1,g2⟩:=fy (xs:=zs) (i:=j) j1 (by omega);obtain⟨e1,g3,g4⟩:=fy (xs:=zs) (i:=j -1) (by omega) (by omega);rw [g1,aN,g3,aN];simp only [aN];rw [Ew j1 (show j -1≠j by omega),g3,aN]
   cases Dk e e1 with
   |false=>exact .inr ⟨_,rfl,j3,j4⟩
   |true=>
    refine .inl ⟨_,rfl,⟨⟨by dsimp only;omega,by dsimp only;omega⟩,by dsimp only;rw [jh,jh];exact j3,fun q hq=>?_⟩,by dsimp only;omega⟩;rcases List.mem_or_eq_of_mem_set hq with hq|hq
    ·rcases List.mem_or_eq_of_mem_set hq with hq|hq
     ·exact j4 q hq
     ·rw [hq];exact j4 e1 g4
    ·rw [hq];exact j4 e g2
  ·rw [decide_eq_false hj];exact .inr ⟨_,rfl,j3,j4⟩
 ·obtain⟨v,ys⟩:=q;dsimp only at hq;subst hq;unfold wV;exact ea rfl hI
theorem aoC (xs:List Int) (h:xs.length≤12):bH (Dn xs) (fun v=>v.length=xs.length∧∀q∈v,q∈xs):=by
 have hb:∀n:Nat,n≤12→bH (G2 (tR (n:Int))) (fun _=>True):=by
  intro n hn;have:n=0∨n=1∨n=2∨n=3∨n=4∨n=5∨n=6∨n=7∨n=8∨n=9∨n=10∨n=11∨n=12:=by omega
  rcases this with rfl|rfl|rfl|rfl|rfl|rfl|rfl|rfl|rfl|rfl|rfl|rfl|rfl<;>exact⟨_,rfl,trivial⟩
 unfold Dn;refine aH (hb _ h) (fun lv _=>aH (Q:=fun v:List Int=>v.length=xs.length∧∀q∈v,q∈xs) ?_ (fun v hv=>HQ hv.1 (aO hv)));unfold G1;obtain⟨v,v1,v2⟩:=aoB xs (by omega);refine⟨v,fr ?_,v2⟩;unfold Dm;dsimp only;rw [decide_eq_true (by rw [bu (by omega) (by omega)];omega),cond_true,v1,aN,v2.1,Nat.beq_refl];rfl
theorem XY {n a:Int} (h1:0≤n∧n≤600) (h2:0≤a∧a≤200):0≤ur n a∧ur n a≤2000:=by
 have q1:=Int.mul_nonneg h1.1 (show 0≤1000+a by omega)
 have q2:n*(1000+a)≤600*1200:=Int.mul_le_mul h1.2 (by omega) (by omega) (by decide);unfold ur;rw [bu (n:=1000+a) (by omega) (by omega),bu (n:=n*(1000+a)) (by omega) (by omega),bu (n:=n*(1000+a)+999) (by omega) (by omega),Int.tdiv_eq_ediv_of_nonneg (by omega),bu (by omega) (by omega)];omega
theorem XZ {p:bh} (h:rR p):(0≤(nT p).1∧(nT p).1≤2000)∧(0≤(nT p).2∧(nT p).2≤2000):=by
 have ht:=h.t;have hw:=h.w;have hz:(0≤((0,0):Int×Int).1∧((0,0):Int×Int).1≤2000)∧(0≤((0,0):Int×Int).2∧((0,0):Int×Int).2≤2000):=by decide
 unfold nT;cases(!(wO p.fh)) with
 |true=>exact hz
 |false=>
 cases(!(wO p.gg)) with
 |true=>exact hz
 |false=>
 cases(decide (p.fK<0)) with
 |true=>exact hz
 |false=>
 cases(decide (200<p.fK)) with
 |true=>exact hz
 |false=>exact⟨XY (by omega) h.a,XY (by omega) h.a⟩
theorem aoD {c:List bh} (hc:c.length≤6) (h0:nk c=some 0) (hp:∀p∈c,rR p):bH (Ak c) (fun v=>v.length≤12∧∀e∈v,0≤e∧e≤2000):=by
 unfold Ak;rw [h0,aN,show((0:Int)!=0)=false from rfl,cond_false]
 refine aH (Q:=fun v:List Int=>v.length≤12∧∀e∈v,0≤e∧e≤2000) ?_ (fun v hv=>aH (aoC v hv.1) (fun w hw=>HQ hw.1 (aH (Q:=fun u:List Int=>u.length≤12∧∀e∈u,0≤e∧e≤2000) ?_ (fun u hu=>aO hu))))
 ·refine di c.length (fun q:List Int×Int=>q.2) (fun q=>(((q.1.length:Nat):Int)=2*q.2)∧∀e∈q.1,0≤e∧e≤2000) (fun q j hI hq hj=>?_) (fun q hI hq=>?_) ⟨rfl,fun e he=>by cases he⟩ rfl (Nat.zero_le _)
  ·obtain⟨xs,v⟩:=q;obtain⟨i1,i2⟩:=hI;dsimp only at i1 i2 hq;subst hq;unfold Aj;refine ei rfl hj (aH (dg hj) ?_);rintro e rfl;have g:=XZ (hp _ (List.getElem_mem hj));rw [fe,bK (by omega)];refine aH (ny (by simp only [List.length_cons,List.length_nil];omega) (by simp only [List.length_cons,List.length_nil];omega)) ?_;rintro w rfl;refine aO (.inl ⟨_,rfl,⟨by dsimp only;rw [List.length_append,List.length_cons,List.length_cons,List.length_nil];omega,fun e he=>?_⟩,rfl⟩);rcases List.mem_append.1 he with he|he
   ·exact i2 e he
   ·rcases List.mem_cons.1 he with rfl|he
    ·exact g.1
    ·rw [List.mem_singleton] at he;rw [he];exact g.2
  ·obtain⟨xs,v⟩:=q;obtain⟨i1,i2⟩:=hI;dsimp only at i1 i2 hq;subst hq;unfold Aj;exact ea rfl ⟨by dsimp only;omega,i2⟩
 ·by_cases r9:w=[]
  ·subst r9;refine⟨[],rfl,Nat.zero_le _,fun e he=>by cases he⟩
  ·exact Ex (aoA w (by omega) r9) fun u hu=>⟨by have:=hu.2.1;omega,fun e he=>hv.2 e (hw.2 e (hu.2.2 e he))⟩
def tj (r:aJ):Prop:=(-600≤r.X.a∧r.X.a<r.X.b∧r.X.b≤600)∧(-600≤r.Y.a∧r.Y.a<r.Y.b∧r.Y.b≤600)
theorem Nd {r:aJ} (h:tj r):nq r=some true:=by
 have st:∀(v:Int) (q:Sp),aC [r.X,r.Y] v=some q→0≤v∧v<2→(-600≤q.a∧q.a<q.b∧q.b≤600)→sY r v=some (.inl (v+1)):=by
  intro v q hq hv h;unfold sY;rw [decide_eq_true hv.2,cond_true,hq,aN,decide_eq_false (by omega),cond_false,decide_eq_false (by omega),cond_false,decide_eq_false (by omega),cond_false,bu (by omega) (by omega)]
 unfold nq;rw [iU (step:=fun q=>sY r q) (st 0 r.X rfl ⟨by omega,by omega⟩ h.1),iU (step:=fun q=>sY r q) (st (0+1) r.Y rfl ⟨by omega,by omega⟩ h.2),fr (step:=fun q=>sY r q) (y:=.inr ()) rfl];rfl
theorem X0 {step:Int→Option (Int⊕(Int⊕Unit))} {a b c d:Int} (hs:∀v,step v=(bif(decide (v<4)) then(β (aC [a,b,c,d] v) (fun e=>(bif(decide (e<(-600))) then some (ι (κ 9)) else(bif(decide (600<e)) then some (ι (κ 9)) else some (κ (U (v+1))))))) else some (ι (ι ())))):
  bH (bb step 0) (fun z=>z=.inl 9∨(z=.inr ()∧(-600≤a∧a≤600)∧(-600≤b∧b≤600)∧(-600≤c∧c≤600)∧(-600≤d∧d≤600))):=by
 refine di 4 (fun q:Int=>q) (fun v=>∀(i:Nat) (hi:i<[a,b,c,d].length),(i:Int)<v→-600≤[a,b,c,d][i]∧[a,b,c,d][i]≤600) (fun v j hI hv hj=>?_) (fun v hI hv=>?_) (fun i _ h=>absurd h (by omega)) rfl (Nat.zero_le _)
 ·subst hv;rw [hs,decide_eq_true (by omega),cond_true];refine aH (dg (show j<[a,b,c,d].length from hj)) ?_
  rintro e rfl;refine bl (fun _=>aO (.inr ⟨_,rfl,.inl rfl⟩)) (fun a1=>bl (fun _=>aO (.inr ⟨_,rfl,.inl rfl⟩)) (fun a2=>aO (.inl ⟨_,rfl,?_,bK (by omega)⟩)));have a1:=of_decide_eq_false a1;have a2:=of_decide_eq_false a2;rw [bK (by omega)];intro k hk bB;by_cases e:k=j
  ·subst e;omega
  ·exact hI k hk (by omega)
 ·subst hv;rw [hs,decide_eq_false (by omega)];exact aO ⟨_,rfl,.inr ⟨rfl,hI 0 (by simp) (by omega),hI 1 (by simp) (by omega),hI 2 (by simp) (by omega),hI 3 (by simp) (by omega)⟩⟩
section
variable{l:List aV} {d:List Df} {c:List bh} {s:cS} {vr:da}
theorem X1 (hl:lY l) (hd:d.length≤1000) {K:Option Int} {P:Prop} (hK:Cx l d c s vr→bH K (fun e=>e=0→P)):
  bH (β (rI l) (fun cv=>(bif(cv !=0) then some cv else(β (j_ d) (fun bU=>(bif(bU !=0) then some bU else(β (nk c) (fun iK=>(bif(iK !=0) then some iK else(bif((lV s vr)!=0) then some (lV s vr) else K)))))))))) (fun e=>e=0→Cx l d c s vr∧P):=by
 obtain⟨e1,a1,a2⟩:=Ek l hl;have b1:=Er (l:=d) (by omega);obtain⟨e3,c1,_,c2⟩:=anh c;rw [xC,a1,aN,b1,aN,c1,aN];refine bl (fun h=>ja (by simpa using h)) (fun h1=>bl (fun h=>ja (by simpa using h)) (fun h2=>bl (fun h=>ja (by simpa using h)) (fun h3=>bl (fun h=>ja (by simpa using h)) (fun h4=>?_))));have h1:=ke h1;have h2:=ke h2;have h3:=ke h3;have cx:Cx l d c s vr:=⟨hl,a2 h1,h1▸a1,h2▸b1,h3▸c1,ke h4,(c2 h3).1,(c2 h3).2⟩;exact Ex (hK cx) fun e he h=>⟨cx,he h⟩
theorem aoE (hl:lY l) (hd:d.length≤1000) (strip:aJ):bH (Dr l d c strip s vr) (fun e=>e=0→Cx l d c s vr∧tj strip):=by
 unfold Dr;refine X1 hl hd (fun _=>bl (fun _=>ja (by decide)) (fun h1=>bl (fun _=>ja (by decide)) (fun h2=>aH (X0 (step:=fun q=>Dq strip q) (fun _=>rfl)) ?_)));have h1:=of_decide_eq_false h1;have h2:=of_decide_eq_false h2;rintro z (rfl|⟨rfl,q1,q2,q3,q4⟩)
 ·exact ja (by decide)
 ·exact aO fun _=>⟨by omega,by omega⟩
theorem aoF (hl:lY l) (hd:d.length≤1000) (frame:aJ):bH (Af l d c frame s vr) (fun e=>e=0→Cx l d c s vr∧tj frame):=by
 unfold Af GX;refine X1 hl hd (fun _=>aH (Q:=fun e=>e=0→tj frame) (bl (fun _=>ja (by decide)) (fun h1=>bl (fun _=>ja (by decide)) (fun h2=>aH (X0 (step:=fun q=>Dj frame q) (fun _=>rfl)) ?_))) (fun e he=>aO he));have h1:=of_decide_eq_false h1;have h2:=of_decide_eq_false h2;rintro z (rfl|⟨rfl,q1,q2,q3,q4⟩)
 ·exact ja (by decide)
 ·exact aO fun _=>⟨by omega,by omega⟩
theorem X2 (h:Cx l d c s vr) (n:Int):bH (wX c n) (fun v=>(v.1.length=v.2.length∧v.1.length≤16)∧(∀e∈v.1,0≤e∧e≤2000)∧∀e∈v.2,0≤e∧e<c.length):=by
 have hc:=h.len;unfold wX;rw [h.k9,aN,show((0:Int)!=0)=false from rfl,cond_false]
 refine aH (Q:=fun v:List Int×List Int=>(v.1.length=v.2.length∧v.1.length≤16)∧(∀e∈v.1,0≤e∧e≤2000)∧∀e∈v.2,0≤e∧e<c.length) ?_ (fun v hv=>aO hv);refine di c.length (fun q:List Int×List Int×Int=>q.2.2) (fun q=>(q.1.length=q.2.1.length∧((q.1.length:Nat):Int)≤q.2.2)∧(∀e∈q.1,0≤e∧e≤2000)∧∀e∈q.2.1,0≤e∧e<c.length) (fun q j hI hq hj=>?_) (fun q hI hq=>?_) ⟨⟨rfl,Int.le_refl _⟩,(fun e he=>by cases he),(fun e he=>by cases he)⟩ rfl (Nat.zero_le _)
 ·obtain⟨xs,ys,v⟩:=q;obtain⟨⟨i1,i2⟩,i3,i4⟩:=hI;dsimp only at i1 i2 i3 i4 hq;subst hq;unfold Al;refine ei rfl hj (aH (dg hj) ?_);rintro e rfl;have g:=XZ (h.M6 _ (List.getElem_mem hj));rw [fe,bK (by omega)]
  have add:∀w,0≤w∧w≤2000→bH (β (cK 8 xs [w]) (fun l=>(β (cK 8 ys ([(j:Int)])) (fun l1=>some (κ (l,l1,((j+1:Nat):Int))))))) (fun z:(List Int×List Int×Int)⊕(List Int×List Int)=>(∃x',z=.inl x'∧((x'.1.length=x'.2.1.length∧((x'.1.length:Nat):Int)≤x'.2.2)∧(∀e∈x'.1,0≤e∧e≤2000)∧∀e∈x'.2.1,0≤e∧e<c.length)∧x'.2.2=((j+1:Nat):Int))∨∃y,z=.inr y∧(y.1.length=y.2.length∧y.1.length≤16)∧(∀e∈y.1,0≤e∧e≤2000)∧∀e∈y.2,0≤e∧e<c.length):=by
   intro w hw;refine aH (ny (by simp only [List.length_cons,List.length_nil];omega) (by simp only [List.length_cons,List.length_nil];omega)) ?_;rintro a rfl;refine aH (ny (by simp only [List.length_cons,List.length_nil];omega) (by simp only [List.length_cons,List.length_nil];omega)) ?_;rintro b rfl;refine aO (.inl ⟨_,rfl,⟨⟨by dsimp only;rw [List.length_append,List.length_append,i1];rfl,by dsimp only;rw [List.length_append,List.length_cons,List.length_nil];omega⟩,fun e he=>?_,fun e he=>?_⟩,rfl⟩)
   ·rcases List.mem_append.1 he with he|he
    ·exact i3 e he
    ·rw [List.mem_singleton] at he;rw [he];exact hw
   ·rcases List.mem_append.1 he with he|he
    ·exact i4 e he
    ·rw [List.mem_singleton] at he;rw [he];omega
  refine bl (fun _=>add _ g.2) (fun _=>bl (fun _=>add _ g.1) (fun _=>aO (.inl ⟨_,rfl,⟨⟨i1,by dsimp only;omega⟩,i3,i4⟩,rfl⟩)))
 ·obtain⟨xs,ys,v⟩:=q;obtain⟨⟨i1,i2⟩,i3⟩:=hI;dsimp only at i1 i2 i3 hq;subst hq;unfold Al;exact ea rfl ⟨⟨i1,by dsimp only;omega⟩,i3⟩
end
def gv (l:List aV) (d:List Df) (c:List bh) (s:cS) (vr:da) (k:Int) (r:aJ):Int:=1000000*(bo l d c s vr.dE k r).2.1+vr.cO*nz l s r (bo l d c s vr.dE k r).1+vr.dF*(V0 l r -d_ r.X r.Y (bo l d c s vr.dE k r).1 l 0 -nz l s r (bo l d c s vr.dE k r).1)
theorem X3 {l:List aV} {r:aJ} {axis p m q:Int} (hx:axis=2∨axis=3) (h1:p≤m) (h2:m≤q):V0 l (rc r axis p q)=V0 l (rc r axis p m)+V0 l (rc r axis m q):=by
 rcases hx with rfl|rfl
 ·exact HL (a:=r.X.a+p) (p:=r.X.a+m) (b:=r.X.a+q) (by omega) (by omega) l 0
 ·exact HM (a:=r.Y.a+p) (p:=r.Y.a+m) (b:=r.Y.a+q) (by omega) (by omega) l 0
theorem H2 {l:List aV} {C:List Int} {ch:Int} {r:aJ} {axis:Int} (hx:axis=2∨axis=3) (hC:∀(k:Nat) (hk:k<C.length),C[k]=U (ch*V0 l (rc r axis k (k+1)))) (p q:Int) (h0:0≤p) (h1:p≤q) (h2:q≤C.length):U (ch*V0 l (rc r axis p q))=U (pre C q.toNat -pre C p.toNat):=by
 obtain⟨a,rfl⟩:=Int.eq_ofNat_of_zero_le h0;obtain⟨n,hn⟩:=Int.eq_ofNat_of_zero_le (show 0≤q -a by omega)
 have hq:q=((a+n:Nat):Int):=by omega
 subst hq;rw [Int.toNat_natCast,Int.toNat_natCast];clear hn h1 h0
 induction n with
 |zero=>
  have h:=X3 (l:=l) (r:=r) hx (Int.le_refl (a:Int)) (Int.le_refl (a:Int));have:V0 l (rc r axis a a)=0:=by omega
  rw [Nat.add_zero,this,Int.mul_zero,Int.sub_self]
 |succ n ih=>
  have ih:=ih (by omega);have hk:a+n<C.length:=by omega
  rw [X3 (m:=((a+n:Nat):Int)) hx (by omega) (by omega),Int.mul_add,←Nat.add_assoc,XF hk,show pre C (a+n)+C[a+n] -pre C a=pre C (a+n) -pre C a+C[a+n] by omega]
  refine jF ih ?_;rw [hC _ hk,eZ];rfl
theorem H3 {α:Type} {R:List α} {g a:α} {q:Int} (h:aC (R++[g]) q=some a):aC R q=some a∨(q=((R.length:Nat):Int)∧a=g):=by
 obtain⟨h0,h1⟩:=pz h;obtain⟨j,rfl⟩:=Int.eq_ofNat_of_zero_le h0;rw [Int.toNat_natCast] at h1;rcases Nat.lt_or_ge j R.length with hj|hj
 ·rw [List.getElem?_append_left hj] at h1;exact .inl h1
 ·rw [List.getElem?_append_right hj] at h1;by_cases e:j=R.length
  ·subst e;rw [Nat.sub_self] at h1;exact .inr ⟨rfl,(Option.some.inj h1).symm⟩
  ·rw [List.getElem?_eq_none (by rw [List.length_cons,List.length_nil];omega)] at h1;cases h1
theorem H4 {x:cT} (hx:qV x) {c:de} (h:o_ x c):∃R g e,aC x.eT c.fS=some R∧aC R c.At=some g∧o9 x c=g∧aC x.cY c.fS=some e∧dG x c=c.At+e:=by
 obtain⟨i,hi⟩:=Int.eq_ofNat_of_zero_le h.s0.1;obtain⟨a,ha⟩:=Int.eq_ofNat_of_zero_le h.a0;have h1:=h.s0.2;have h2:=h.fit;have h3:=h.pos;have B4:=hx.gl;rw [hi] at h1;have i1:i<x.cY.length:=by omega
 have i2:i<x.eT.length:=by omega
 have e1:aC x.cY c.fS=some x.cY[i]:=by rw [hi];exact cQ i1
 have e2:dG x c=c.At+x.cY[i]:=by unfold dG EF;rw [e1];rfl
 have hr:=hx.row i i1 i2;have a1:a<x.eT[i].length:=by omega
 have e3:aC x.eT c.fS=some x.eT[i]:=by rw [hi];exact cQ i2
 have e4:aC x.eT[i] c.At=some x.eT[i][a]:=by rw [ha];exact cQ a1
 exact⟨_,_,_,e3,e4,by unfold o9;rw [e3];dsimp only [Option.getD_some];rw [e4];rfl,e1,e2⟩
theorem Nf {axis kerf B:Int} {M:Nat}:∀(ps:List (Sp×PT)) (e:Int),(∀q∈ps,q.2.flat.length≤M)→(ib axis kerf B e ps).flat.length≤1+ps.length*(M+3)
 |[],_,_=>by simp [ib,PT.flat]
 |(s,t)::ps,e,h=>by
  have ih:=Nf (axis:=axis) (kerf:=kerf) (B:=B) ps (min (s.b+kerf) B) fun q hq=>h q (List.mem_cons_of_mem _ hq)
  have ht:t.flat.length≤M:=h _ (List.mem_cons_self ..)
  have hu:(if s.b<B then PT.rip axis s.b t (ib axis kerf B (min (s.b+kerf) B) ps) else t).flat.length≤1+(M+(1+ps.length*(M+3))):=by
   split
   ·show(t.flat++(ib axis kerf B _ ps).flat).length+1≤_
    rw [List.length_append];omega
   ·omega
  rw [ib,List.length_cons,Nat.add_mul,Nat.one_mul];split
  ·show([(⟨0,0⟩:bq)]++(if s.b<B then PT.rip axis s.b t (ib axis kerf B (min (s.b+kerf) B) ps) else t).flat).length+1≤_
   rw [List.length_append,List.length_cons,List.length_nil];omega
  ·omega
section
variable{l:List aV} {d:List Df} {c:List bh} {s:cS} {vr:da}
theorem aoG (h:Cx l d c s vr) {k:Int} {p:bh} (hp:aC c k=some p) (x:aJ):bH (DD l d p x s vr) (fun g=>0≤g→GB l d c s vr.dE k x∧U g=U (gv l d c s vr k x)):=by
 obtain⟨o,ho,_,_⟩:=Xg h.low d p x s.Step vr.dE
 have e:bo l d c s vr.dE k x=o:=by
  unfold bo;rw [hp];dsimp only;rw [ho];rfl
 unfold DD rL;rw [ho,aN];refine bl (fun _=>aO (fun q=>absurd q (by decide))) (fun hb=>?_);rw [AS,length_eq h.fD h.jR,aN,rQ h.fD h.jR,rQ h.fD h.jR,rQ h.fD h.jR,rQ h.fD h.jR];simp only [aN];refine aO fun _=>⟨?_,?_⟩
 ·unfold GB;rw [e];simpa using hb
 ·unfold gv;rw [e];exact(eZ _).trans (jF ((eZ _).trans (jF (eZ _) ((eZ _).trans (EC _ (eZ _))))) ((eZ _).trans (EC _ ((eZ _).trans (xO (eZ _) (eZ _))))))
def u5 (l:List aV) (d:List Df) (c:List bh) (s:cS) (vr:da) (strip:aJ) (k e:Int) (R:List Int):Prop:=∀(q g:Int),aC R q=some g→0≤g→GB l d c s vr.dE k (rc strip 2 q (q+e))∧U g=U (gv l d c s vr k (rc strip 2 q (q+e)))
theorem aoH (h:Cx l d c s vr) {strip:aJ} (hf:tj strip) {sv:List Int×List Int} {i k e:Int} (he:0≤e∧e≤2000) (hk:aC sv.2 i=some k) (hU:0≤k∧k<c.length):bH (bb (fun q:List Int×Int=>xd l d c strip s vr sv i e q.1 q.2) ([],0)) (fun R=>R.length≤2000∧u5 l d c s vr strip k e R):=by
 obtain⟨hX,hY⟩:=hf;have MV:=(uZ h.ti).2.2.1;refine p_ (step:=fun q:List Int×Int=>xd l d c strip s vr sv i e q.1 q.2) (fun q=>(((q.1.length:Nat):Int)=q.2∧q.2≤1300)∧u5 l d c s vr strip k e q.1) (fun q=>(1400 -q.2).toNat) (fun R:List Int=>R.length≤2000∧u5 l d c s vr strip k e R) (fun q hq=>?_) _ ⟨⟨rfl,by decide⟩,fun q g hg=>by cases hq:aC ([]:List Int) q with|none=>rw [hq] at hg;cases hg|some a=>have:=pz hq;simp at this⟩;obtain⟨R,p⟩:=q;obtain⟨⟨q1,q2⟩,q3⟩:=hq;dsimp only at q1 q2 q3;unfold xd;dsimp only;rw [bu (n:=p+e) (by omega) (by omega),bu (n:=strip.X.b -strip.X.a) (by omega) (by omega),bu (n:=p+1) (by omega) (by omega)]
 have add:∀g,(0≤g→GB l d c s vr.dE k (rc strip 2 p (p+e))∧U g=U (gv l d c s vr k (rc strip 2 p (p+e))))→p≤1299→∃x':List Int×Int,β (cK 8 R ([g])) (fun l1=>(some (κ (l1,p+1)):Option ((List Int×Int)⊕List Int)))=some (.inl x')∧((((x'.1.length:Nat):Int)=x'.2∧x'.2≤1300)∧u5 l d c s vr strip k e x'.1)∧(1400 -x'.2).toNat<(1400 -p).toNat:=by
  intro g hg hp;refine⟨(R++[g],p+1),?_,⟨⟨?_,?_⟩,fun q a ha h0=>?_⟩,?_⟩
  ·rw [jT (by simp only [List.length_cons,List.length_nil];omega) (by simp only [List.length_cons,List.length_nil];omega)];rfl
  ·dsimp only;rw [List.length_append,List.length_cons,List.length_nil];omega
  ·dsimp only;omega
  ·rcases H3 ha with ha|⟨rfl,rfl⟩
   ·exact q3 q a ha h0
   ·rw [q1];exact hg h0
  ·dsimp only;omega
 by_cases hle:p+e≤strip.X.b -strip.X.a
 ·rw [decide_eq_true hle,cond_true,show(s.dq !=0)=true by simp;omega,cond_true]
  cases(Int.tmod p s.dq==0) with
  |false=>
   rw [cond_false];exact .inl (add (-1) (fun q=>absurd q (by decide)) (by omega))
  |true=>
   rw [cond_true,hk,aN]
   obtain⟨p0,X4⟩:∃p0,aC c k=some p0:=by
    obtain⟨j,hj⟩:=Int.eq_ofNat_of_zero_le hU.1;rw [hj];exact⟨_,cQ (by omega)⟩
   rw [X4,aN,fe]
   have qX:qL strip p (p+e)=rc strip 2 p (p+e):=by
    unfold qL;rw [bu (n:=strip.X.a+p) (by omega) (by omega),bu (n:=strip.X.a+(p+e)) (by omega) (by omega)];rfl
   rw [qX];obtain⟨g,g1,g2⟩:=aoG h X4 (rc strip 2 p (p+e));rw [g1,aN];exact .inl (add g g2 (by omega))
 ·rw [decide_eq_false hle];exact .inr ⟨_,rfl,by omega,q3⟩
structure aoI (l:List aV) (d:List Df) (c:List bh) (s:cS) (vr:da) (strip:aJ) (sv:List Int×List Int) (x:cT):Prop where
 len:x.aT=strip.X.b -strip.X.a
 kerf:x.bj=s.bj
 mK:x.cY=sv.1
 sm:EE x
 A6:∀i R,aC x.eT i=some R→∀e k,aC sv.1 i=some e→aC sv.2 i=some k→u5 l d c s vr strip k e R
 A9:∀(k:Nat) (hk:k<x.dF.length),x.dF[k]=U (vr.dF*V0 l (rc strip 2 k (k+1)))
 ly:∀(k:Nat) (hk:k<x.cO.length),x.cO[k]=U (vr.cO*V0 l (rc strip 2 k (k+1)))
theorem H5 {R:List Int} {g:Int} {f:Nat→Int} (h:∀(k:Nat) (hk:k<R.length),R[k]=f k) (hg:g=f R.length):∀(k:Nat) (hk:k<(R++[g]).length),(R++[g])[k]=f k:=by
 intro k hk;rw [List.getElem_append];split
 ·exact h k _
 ·rename_i hn;rw [List.length_append,List.length_cons,List.length_nil] at hk;have:k=R.length:=by omega
  subst this;simp [hg]
theorem aoJ (hl:lY l) (hd:d.length≤1000) (strip:aJ):bH (DE l d c strip s vr) (fun r=>r.2=0→Cx l d c s vr∧tj strip∧∃sv,wX c (U (strip.Y.b -strip.Y.a))=some sv∧aoI l d c s vr strip sv r.1):=by
 unfold DE;refine aH (aoE hl hd strip) (fun e he=>bl (fun e0=>aO (fun q=>absurd q (by simpa using e0))) (fun e0=>?_));obtain⟨h,hf⟩:=he (ke e0);obtain⟨sv,s1,⟨s2,s2'⟩,s3,s4⟩:=X2 h (U (strip.Y.b -strip.Y.a));rw [s1,aN];obtain⟨hX,hY⟩:=id hf
 have A:bH (bb (fun q:Int×List (List Int)×List Int×List Int=>xf l d c strip s vr sv q.1 q.2.1 q.2.2.1 q.2.2.2) (0,[],[],[])) (fun w=>(w.2.1=[]∧w.2.2=[])∧(w.1.length≤16∧∀e∈w.1,e.length≤2000)∧∀i R,aC w.1 i=some R→∀e k,aC sv.1 i=some e→aC sv.2 i=some k→u5 l d c s vr strip k e R):=by
  refine di sv.1.length (fun q:Int×List (List Int)×List Int×List Int=>q.1) (fun q=>(q.2.2.1=[]∧q.2.2.2=[])∧(((q.2.1.length:Nat):Int)=q.1∧∀e∈q.2.1,e.length≤2000)∧∀i R,aC q.2.1 i=some R→∀e k,aC sv.1 i=some e→aC sv.2 i=some k→u5 l d c s vr strip k e R) (fun q j hI hq hj=>?_) (fun q hI hq=>?_) ⟨⟨rfl,rfl⟩,⟨rfl,fun e he=>by cases he⟩,fun i R hR=>by have:=pz hR;simp at this⟩ rfl (Nat.zero_le _)
  ·obtain⟨v,G,a,b⟩:=q;obtain⟨i1,⟨i2,i3⟩,i4⟩:=hI;dsimp only at i1 i2 i3 i4 hq;subst hq;unfold xf;refine ei rfl hj ?_;rw [cQ hj,aN,bK (by omega)];have e2:=s3 _ (List.getElem_mem hj);have EK:j<sv.2.length:=by omega
   have e3:=s4 _ (List.getElem_mem EK);refine aH (Q:=fun G'=>∃R,G'=G++[R]∧R.length≤2000∧u5 l d c s vr strip sv.2[j] sv.1[j] R) (aH (aoH h hf e2 (cQ EK) e3) (fun R hR=>aH (ny (by simp only [List.length_cons,List.length_nil];omega) (by simp only [List.length_cons,List.length_nil];omega)) ?_)) ?_
   ·rintro w rfl;exact aO ⟨R,rfl,hR⟩
   ·rintro w ⟨R,rfl,r1,r2⟩;refine aO (.inl ⟨_,rfl,⟨i1,⟨by dsimp only;rw [List.length_append,List.length_cons,List.length_nil];omega,fun e he=>?_⟩,fun i R' u6 e k he hk=>?_⟩,rfl⟩)
    ·rcases List.mem_append.1 he with he|he
     ·exact i3 e he
     ·rw [List.mem_singleton] at he;rw [he];exact r1
    ·rcases H3 u6 with u6|⟨rfl,rfl⟩
     ·exact i4 i R' u6 e k he hk
     ·rw [i2,cQ hj] at he;rw [i2,cQ EK] at hk;cases he;cases hk;exact r2
  ·obtain⟨v,G,a,b⟩:=q;obtain⟨i1,⟨i2,i3⟩,i4⟩:=hI;dsimp only at i1 i2 i3 i4 hq;subst hq;unfold xf;exact ea rfl ⟨i1,⟨by dsimp only;omega,i3⟩,i4⟩
 refine aH A ?_;rintro⟨G,a,b⟩ ⟨⟨w1,w2⟩,⟨w3,w4⟩,w5⟩;dsimp only at w1 w2 w3 w4 w5;subst w1 w2;rw [AS,length_eq h.fD h.jR,aN];obtain⟨n,hn⟩:=Int.eq_ofNat_of_zero_le (show 0≤strip.X.b -strip.X.a by omega)
 have B:bH (bb (fun q:Int×List (List Int)×List Int×List Int=>xg l strip vr (bA l) q.1 q.2.1 q.2.2.1 q.2.2.2) (0,G,[],[])) (fun w=>w.1=G∧(w.2.1.length≤1200∧w.2.2.length≤1200)∧(∀(k:Nat) (hk:k<w.2.1.length),w.2.1[k]=U (vr.dF*V0 l (rc strip 2 k (k+1))))∧∀(k:Nat) (hk:k<w.2.2.length),w.2.2[k]=U (vr.cO*V0 l (rc strip 2 k (k+1)))):=by
  refine di n (fun q:Int×List (List Int)×List Int×List Int=>q.1) (fun q=>q.2.1=G∧(((q.2.2.1.length:Nat):Int)=q.1∧((q.2.2.2.length:Nat):Int)=q.1)∧(∀(k:Nat) (hk:k<q.2.2.1.length),q.2.2.1[k]=U (vr.dF*V0 l (rc strip 2 k (k+1))))∧∀(k:Nat) (hk:k<q.2.2.2.length),q.2.2.2[k]=U (vr.cO*V0 l (rc strip 2 k (k+1)))) (fun q j hI hq hj=>?_) (fun q hI hq=>?_) ⟨rfl,⟨rfl,rfl⟩,(fun k hk=>absurd hk (Nat.not_lt_zero k)),(fun k hk=>absurd hk (Nat.not_lt_zero k))⟩ rfl (Nat.zero_le _)
  ·obtain⟨v,G',C,D⟩:=q;obtain⟨i1,⟨i2,qY⟩,i3,i4⟩:=hI;dsimp only at i1 i2 qY i3 i4 hq;subst hq;unfold xg;dsimp only
   have qX:qL strip (j:Int) (((j+1:Nat):Int))=rc strip 2 j (j+1):=by
    unfold qL;rw [bu (n:=strip.X.a+(j:Int)) (by omega) (by omega),bu (n:=strip.X.a+((j+1:Nat):Int)) (by omega) (by omega)];rfl
   have hv:rL l (rc strip 2 j (j+1)) ⟨0,bA l⟩=some (V0 l (rc strip 2 j (j+1))):=by
    unfold rL;rw [rQ h.fD h.jR];rfl
   rw [bu (n:=strip.X.b -strip.X.a) (by omega) (by omega),decide_eq_true (by omega),cond_true,bK (by omega),fe,qX,hv,aN];refine aH (ny (by simp only [List.length_cons,List.length_nil];omega) (by simp only [List.length_cons,List.length_nil];omega)) ?_;rintro C' rfl;refine aH (ny (by simp only [List.length_cons,List.length_nil];omega) (by simp only [List.length_cons,List.length_nil];omega)) ?_;rintro D' rfl;have f1:C.length=j:=by omega
   have f2:D.length=j:=by omega
   exact aO (.inl ⟨_,rfl,⟨i1,⟨by dsimp only;rw [List.length_append,List.length_cons,List.length_nil];omega,by dsimp only;rw [List.length_append,List.length_cons,List.length_nil];omega⟩,H5 (f:=fun k=>U (vr.dF*V0 l (rc strip 2 k (k+1)))) i3 (by rw [f1]),H5 (f:=fun k=>U (vr.cO*V0 l (rc strip 2 k (k+1)))) i4 (by rw [f2])⟩,rfl⟩)
  ·obtain⟨v,G',C,D⟩:=q;obtain⟨i1,⟨i2,qY⟩,i3,i4⟩:=hI;dsimp only at i1 i2 qY i3 i4 hq;subst hq;unfold xg;dsimp only;rw [bu (n:=strip.X.b -strip.X.a) (by omega) (by omega),decide_eq_false (by omega)];exact aO ⟨_,rfl,i1,⟨by dsimp only;omega,by dsimp only;omega⟩,i3,i4⟩
 refine aH B ?_;rintro⟨G',C,D⟩ ⟨v1,⟨v2,v3⟩,v4,v5⟩;dsimp only at v1 v2 v3 v4 v5;subst v1;refine aO fun _=>⟨h,hf,sv,rfl,?_⟩
 dsimp only;exact⟨bu (by omega) (by omega),rfl,rfl,⟨by dsimp only;omega,by dsimp only;omega,fun e he=>by have:=w4 e he;omega,by dsimp only;omega,by dsimp only;omega⟩,w5,v4,v5⟩
def H6 (l:List aV) (d:List Df) (c:List bh) (s:cS) (vr:da) (r:aJ) (N:List bq) (v:Int):Prop:=∃t:PT,N=t.flat∧t.flat.length≤127∧t.ok s.bj (GB l d c s vr.dE) r∧U v=U (t.val s.bj vr.dF vr.cO (V0 l) (gv l d c s vr) r)
theorem aoK (hl:lY l) (hd:d.length≤1000) (strip:aJ):bH (DM l d c strip s vr) (fun r=>r.2.2=0→H6 l d c s vr strip r.1 r.2.1):=by
 unfold DM;refine aH (aoJ hl hd strip) (fun lv hlv=>bl (fun e0=>aO (fun q=>absurd q (by simpa using e0))) (fun e0=>?_));obtain⟨h,hf,sv,HS,hx⟩:=hlv (ke e0);obtain⟨x,xe⟩:=lv;dsimp only at hx⊢;refine aH (XL hx.sm) (fun bv xN=>bl (fun e0=>aO (fun q=>absurd q (by simpa using e0))) (fun e0=>?_));obtain⟨ln,v,fv,wv⟩:=xN (ke e0);obtain⟨cs,val,ee⟩:=bv;dsimp only at fv wv⊢;rw [HS,aN];obtain⟨hX,hY⟩:=id hf;have Ng:=uZ h.ti;have hlen:=ln.len;obtain⟨f1,f2⟩:=XR ln fv hlen.1;obtain⟨T,hT⟩:∃T:de→PT,T=fun q=>.leaf 1 ((aC sv.2 q.fS).getD 0):=⟨_,rfl⟩
 obtain⟨sv0,jl,⟨dc,_⟩,_,_⟩:=X2 h (U (strip.Y.b -strip.Y.a));rw [HS] at jl;cases jl
 have X5:∀q,o_ x q→∃k,aC sv.2 q.fS=some k:=by
  intro q hq;obtain⟨i,hi⟩:=Int.eq_ofNat_of_zero_le hq.s0.1;have h2:=hq.s0.2;rw [hx.mK] at h2;rw [hi];exact⟨_,cQ (by omega)⟩
 have dj:=hx.mK
 have tree:M5 x strip 2 vr.dF vr.cO (V0 l) (gv l d c s vr) (GB l d c s vr.dE) T:=by
  refine⟨ln,.inl rfl,⟨?_,?_⟩,?_,fun p q a b e=>?_,fun p q a b e=>?_,fun q hq=>?_⟩
  ·show-600≤strip.X.a
   omega
  ·show strip.X.a≤600
   omega
  ·show strip.X.a+x.aT=strip.X.b
   rw [hx.len];omega
  ·exact H2 (.inl rfl) hx.A9 p q a b (by rw [ln.cl];exact e)
  ·exact H2 (.inl rfl) hx.ly p q a b (by rw [ln.dl];exact e)
  ·obtain⟨R,g,e,g1,g2,g3,g4,g5⟩:=H4 ln hq;obtain⟨k,hk⟩:=X5 q hq;rw [dj] at g4;have hg:=hq.A6;rw [g3] at hg;obtain⟨r1,r2⟩:=hx.A6 _ _ g1 _ _ g4 hk _ _ g2 hg;rw [g3,g5,hT];dsimp only;rw [hk];exact⟨r2.symm,.inr ⟨rfl,r1⟩⟩
 have hA:(b8 strip 2)=strip.X:=rfl;obtain⟨c1,c2,c3⟩:=XQ tree fv (Int.le_refl _) hlen.1;rw [hA,Int.add_zero] at c1 c2 c3;have lh:rc strip 2 0 x.aT=strip:=XP (.inl rfl) (by rw [hA,hx.len];omega);rw [lh] at c2 c3
 have lists:bH (bb (fun q:List Sp×List (List bq)×Int=>xo strip (cs,val,ee) sv q.1 q.2.1 q.2.2) ([],[],0)) (fun w=>w=((cs.map (ic x strip.X.a T)).map Prod.fst,(cs.map (ic x strip.X.a T)).map fun q=>q.2.flat)):=by
  refine di cs.length (fun q:List Sp×List (List bq)×Int=>q.2.2) (fun q=>q.1=((cs.take q.2.2.toNat).map (ic x strip.X.a T)).map Prod.fst∧q.2.1=((cs.take q.2.2.toNat).map (ic x strip.X.a T)).map fun q=>q.2.flat) (fun q j hI hq hj=>?_) (fun q hI hq=>?_) ⟨rfl,rfl⟩ rfl (Nat.zero_le _)
  ·obtain⟨A,P,v⟩:=q;obtain⟨i1,i2⟩:=hI;dsimp only at i1 i2 hq;subst hq;rw [Int.toNat_natCast] at i1 i2;unfold xo;refine ei rfl hj ?_;have pc:=f2 _ (List.getElem_mem hj);obtain⟨R,g,e,g1,g2,g3,g4,g5⟩:=H4 ln pc;obtain⟨k,hk⟩:=X5 _ pc;rw [dj] at g4;have p1:=pc.a0;have p2:=pc.fit;have p3:=pc.pos
   have EK:A.length≤2000∧P.length≤2000:=by
    rw [i1,i2];simp only [List.length_map,List.length_take];omega
   rw [cQ hj,aN,g4,aN,fe,bu (n:=cs[j].At+e) (by omega) (by omega),←g5]
   have qX:(qL strip cs[j].At (dG x cs[j])).X=⟨strip.X.a+cs[j].At,strip.X.a+dG x cs[j]⟩:=by
    unfold qL;rw [bu (n:=strip.X.a+cs[j].At) (by omega) (by omega),bu (n:=strip.X.a+dG x cs[j]) (by omega) (by omega)]
   rw [qX,jT (by simp only [List.length_cons,List.length_nil];omega) (by simp only [List.length_cons,List.length_nil];omega),aN,hk,aN];unfold Hd Hc;rw [jT (by simp only [List.length_cons,List.length_nil];omega) (by simp only [List.length_cons,List.length_nil];omega),aN,List.nil_append,jT (by simp only [List.length_cons,List.length_nil];omega) (by simp only [List.length_cons,List.length_nil];omega),aN,aN,bK (by omega)];refine aO (.inl ⟨_,rfl,⟨?_,?_⟩,rfl⟩)
   ·dsimp only;rw [Int.toNat_natCast,List.take_succ_eq_append_getElem hj,List.map_append,List.map_append,i1];rfl
   ·dsimp only;rw [Int.toNat_natCast,List.take_succ_eq_append_getElem hj,List.map_append,List.map_append,i2];congr 1;show _=[(T cs[j]).flat]
    rw [hT];dsimp only;rw [hk];rfl
  ·obtain⟨A,P,v⟩:=q;obtain⟨i1,i2⟩:=hI;dsimp only at i1 i2 hq;subst hq;rw [Int.toNat_natCast,List.take_length] at i1 i2;unfold xo;exact ea rfl (by rw [i1,i2])
 refine aH lists ?_;rintro w rfl;dsimp only;have hk:x.bj=s.bj:=hx.kerf;rw [hk] at c1 c2 c3
 have hb:=Nf (axis:=2) (kerf:=s.bj) (B:=strip.X.b) (M:=1) (cs.map (ic x strip.X.a T)) strip.X.a (fun q hq=>by
  obtain⟨u,_,rfl⟩:=List.mem_map.1 hq;show(T u).flat.length≤1
  rw [hT];exact Nat.le_refl _)
 rw [List.length_map] at hb;refine aH (XN (L:=cs.map (ic x strip.X.a T)) (.inl rfl) (Nd hf) Ng.1 (by rw [hA];omega) (by rw [hA];omega) (by rw [List.length_map];omega) (by rw [hA];exact c1) (by rw [hA];omega)) (fun rv Nh=>bl (fun e0=>aO (fun q=>absurd q (by simpa using e0))) (fun e0=>aO fun _=>?_));obtain⟨r1,r2⟩:=Nh (ke e0);rw [hA] at r1;exact⟨_,r1,r1▸r2,c3,wv.trans c2.symm⟩
end
end Go.Proofs.YtccnpbnokndeeaaGreatDoor
end
