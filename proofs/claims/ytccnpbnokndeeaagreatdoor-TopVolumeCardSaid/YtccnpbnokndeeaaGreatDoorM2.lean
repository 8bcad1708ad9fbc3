/- Texts for the law: Ab15, Ab16, Ab17, Ab18, Ab19, Ab20, Ab21, Ab22, Ab23, Ab24, Ab25, Ab26, Ab27, Ab29, Ab31, Tt, F1, Sh, Ty. -/
import Derived.Test.YtccnpbnokndeeaaGreatDoorM1
import Derived.ProofKit
import Derived.OpenShut
import Derived.ChangeKeysEq
import Derived.Laws.BytesString
import Derived.Lib.AppendStr
import Derived.Lib.UnsafeStr
import Derived.Lib.Builder
import Derived.MapKept
import Derived.Test.YtccnpbnokndeeaaGreatDoorProg
import Derived.KernelRfl
noncomputable section
open Option renaming bind→β
open Sum renaming inr→ι,inl→κ
namespace Go.Ab
open Go.RowKit
variable{lim:Nat}
section
variable{P:Program} {tt:TT} {o:Oper} {s:St} {e:ec}
theorem acg {T:Nat} {x:Operand} (ht:fK P tt) (ho:o.op=.load T x) (h:Iv tt T s (s.ev x)=some e):di P o s e:=by
 unfold Iv at h;cases hT:lk T tt with
 |none=>simp [hT] at h
 |some D=>
  have hD:=ht T D hT;simp only [hT] at h;cases hx:s.ev x with
  |vp cs=>
   simp only [hx] at h;cases hv:rd D cs 0 with
   |none=>simp [hv] at h
   |some v=>simp only [hv,Option.some.injEq] at h;subst h;exact aaH ho hD hx hv
  |ref b i off=>
   simp only [hx] at h;cases hb:lk b s.m with
   |none=>simp [hb] at h
   |some ok=>
    cases ok with
    |none=>simp [hb] at h
    |some k=>
     simp only [hb] at h;cases he:nj k.xs i with
     |none=>simp [he] at h
     |some ev=>
      simp only [he] at h;cases hv:rd D ev.cells off with
      |none=>simp [hv] at h
      |some v=>simp only [hv,Option.some.injEq] at h;subst h;exact Oz ho hD hx hb (yj _ _ _ he) hv
  |_=>simp [hx] at h
theorem ach {T:Nat} {x y:Operand} (ht:fK P tt) (ho:o.op=.store T x y) (h:Iw tt T s (s.ev x) (s.ev y)=some e):di P o s e:=by
 unfold Iw at h;cases hT:lk T tt with
 |none=>simp [hT] at h
 |some D=>
  have hD:=ht T D hT;simp only [hT] at h;cases hx:s.ev x with
  |ref b i off=>
   simp only [hx] at h;cases hb:lk b s.m with
   |none=>simp [hb] at h
   |some ok=>
    cases ok with
    |none=>simp [hb] at h
    |some k=>
     obtain⟨ty,cy,xs⟩:=k;simp only [hb] at h;cases he:nj xs i with
     |none=>simp [he] at h
     |some ev=>
      simp only [he] at h;have eS:s.ev y≠.bot:=by intro hq;rw [hq] at h;simp at h
      have h':(match Nat.beq (s.ev y).cells.length D.size&&(s.ev y).cells.all AV.k9 with
       |false=>none
       |true=>match tK ev off (s.ev y).cells with
        |none=>none
        |some e'=>match r_ xs i e' with
         |none=>none
         |some ED=>some (⟨.cz [],[(b,some ⟨ty,cy,ED⟩)],[b],[]⟩:ec))=some e:=by
       generalize s.ev y=q at h eS;cases q<;>first|exact absurd rfl eS|exact h
      cases hc:Nat.beq (s.ev y).cells.length D.size&&(s.ev y).cells.all AV.k9 with
      |false=>simp [hc] at h'
      |true=>
       simp only [hc] at h';simp only [Bool.and_eq_true] at hc;cases hu:tK ev off (s.ev y).cells with
       |none=>simp [hu] at h'
       |some e'=>
        simp only [hu] at h';cases hs:r_ xs i e' with
        |none=>simp [hs] at h'
        |some ED=>
         simp only [hs,Option.some.injEq] at h';subst h';have:=OA ho hD hx hb rfl eS hc.1 hc.2 (yj _ _ _ he) hu;simp only [Pm _ _ _ _ hs] at this;exact this
  |_=>simp [hx] at h
theorem aci {t j:Nat} {x:Operand} (ht:fK P tt) (ho:o.op=.fieldAddr t x j) (h:Ix tt t j (s.ev x)=some e):di P o s e:=by
 unfold Ix at h;cases hT:lk t tt with
 |none=>simp [hT] at h
 |some D=>
  have hD:=ht t D hT;simp only [hT] at h;cases hk:D.k with
  |struct fs=>
   simp only [hk] at h;cases hj:vJ fs j with
   |none=>simp [hj] at h
   |some p=>
    obtain⟨fo,fz⟩:=p;simp only [hj] at h;rw [Pn] at hj;cases hz:Nat.blt 0 fz with
    |false=>simp [hz] at h
    |true=>
     simp only [hz] at h;cases hx:s.ev x with
     |ref b i off=>simp only [hx,Option.some.injEq] at h;subst h;exact aaP ho hD hk hj hz hx
     |vp cs=>
      simp only [hx] at h;cases hl:kL cs fo with
      |none=>simp [hl] at h
      |some l=>simp only [hl,Option.some.injEq] at h;subst h;exact aaQ ho hD hk hj hz hx hl
     |_=>simp [hx] at h
  |_=>simp [hk] at h
theorem acj {t:Nat} {x y:Operand} (ht:fK P tt) (ho:o.op=.indexAddr t x y) (h:Iy tt t s (s.ev x) (s.ev y)=some e):di P o s e:=by
 unfold Iy at h;cases hT:lk t tt with
 |none=>simp [hT] at h
 |some D=>
  have hD:=ht t D hT;simp only [hT] at h;cases hy:s.ev y with
  |sc v=>
   cases v with
   |int k i=>
    simp only [hy] at h;cases hk:D.k with
    |slice el=>
     simp only [hk] at h;cases hE:lk el tt with
     |none=>simp [hE] at h
     |some E=>
      have Bk:=ht el E hE;simp only [hE] at h;cases hx:s.ev x with
      |sl xs=>
       simp only [hx] at h;cases hn:sa i xs.length with
       |none=>simp [hn] at h
       |some n=>
        simp only [hn] at h;obtain⟨h1,h2,h3⟩:=EB hn;cases hg:nj xs n with
        |none=>simp [hg] at h
        |some ev=>
         simp only [hg] at h;cases hb:Nat.beq ev.cells.length E.size with
         |false=>simp [hb] at h
         |true=>simp only [hb,Option.some.injEq] at h;subst h;exact OD ho hD hk Bk hx hy h1 (by rw [h3];exact yj _ _ _ hg) hb
      |arr b off len=>
       simp only [hx] at h;cases hn:sa i len with
       |none=>simp [hn] at h
       |some n=>
        simp only [hn] at h;obtain⟨h1,h2,h3⟩:=EB hn;cases hb:lk b s.m with
        |none=>simp [hb] at h
        |some ok=>
         cases ok with
         |none=>simp [hb] at h
         |some bk=>
          simp only [hb] at h;cases hz:Nat.beq bk.cy E.size with
          |false=>simp [hz] at h
          |true=>
           simp only [hz,Option.some.injEq] at h;subst h;have:=HC ho hD hk Bk hx hy hb hz h1 h2;rwa [h3] at this
      |_=>simp [hx] at h
    |array n el=>
     simp only [hk] at h;cases hE:lk el tt with
     |none=>simp [hE] at h
     |some E=>
      have Bk:=ht el E hE;simp only [hE] at h;cases hn:sa i n with
      |none=>simp [hn] at h
      |some q=>
       simp only [hn] at h;obtain⟨h1,h2,h3⟩:=EB hn;cases hx:s.ev x with
       |ref b j off=>
        simp only [hx,Option.some.injEq] at h;subst h;have:=aaR ho hD hk Bk hx hy h1 h2;rwa [h3] at this
       |vp cs=>
        simp only [hx] at h;cases hl:kL cs (q*E.size) with
        |none=>simp [hl] at h
        |some l=>simp only [hl,Option.some.injEq] at h;subst h;exact aaS ho hD hk Bk hx hy h1 h2 (by rw [h3];exact hl)
       |_=>simp [hx] at h
    |_=>simp [hk] at h
   |_=>simp [hy] at h
  |_=>simp [hy] at h
theorem ack {t:Nat} {parts:Array (Nat×Operand)} (ht:fK P tt) (ho:o.op=.build t parts) (h:Iz tt t s parts=some e):di P o s e:=by
 unfold Iz at h;cases hT:lk t tt with
 |none=>simp [hT] at h
 |some D=>
  have hD:=ht t D hT;simp only [hT] at h;cases hp:r9 s parts.toList with
  |none=>simp [hp] at h
  |some ps=>
   simp only [hp] at h;have yk:=It s _ _ hp;cases hk:D.k with
   |struct fs=>
    simp only [hk] at h;cases hz:D_ fs with
    |false=>simp [hz] at h
    |true=>
     simp only [hz] at h;cases hl:nf (fun j=>fs[j]?) D.zero.cells ps with
     |none=>simp [hl] at h
     |some l=>simp only [hl,Option.some.injEq] at h;subst h;exact aaW ho hD hk hz (by rw [yk];exact hl)
   |array n el=>
    simp only [hk] at h;cases hE:lk el tt with
    |none=>simp [hE] at h
    |some E=>
     simp only [hE] at h;cases hl:nf (fun j=>some (j*E.size,E.size)) D.zero.cells ps with
     |none=>simp [hl] at h
     |some l=>simp only [hl,Option.some.injEq] at h;subst h;exact aaX ho hD hk (ht el E hE) (by rw [yk];exact hl)
   |_=>simp [hk] at h
theorem acm {t len:Nat} {parts:Array (Nat×Operand)} {dst:Option Nat} (ht:fK P tt) (ho:o.op=.buildSlice t len parts) (h:IA tt t len s parts dst=some e):di P o s e:=by
 unfold IA at h;cases dst with
 |none=>simp at h
 |some d=>
  simp only at h;cases hT:lk t tt with
  |none=>simp [hT] at h
  |some D=>
   have hD:=ht t D hT;simp only [hT] at h;cases hk:D.k with
   |slice el=>
    simp only [hk] at h;cases hE:lk el tt with
    |none=>simp [hE] at h
    |some E=>
     simp only [hE] at h;cases hz:Nat.blt 0 E.size&&Nat.ble (len*E.size) 16777216 with
     |false=>simp [hz] at h
     |true=>
      simp only [hz] at h;simp only [Bool.and_eq_true] at hz;cases hp:r9 s parts.toList with
      |none=>simp [hp] at h
      |some ps=>
       simp only [hp] at h;cases hl:nf (fun j=>some (j*E.size,E.size)) (qQ E.zero.cells len) ps with
       |none=>simp [hl] at h
       |some l=>
        simp only [hl] at h;cases hg:group E.k.isAgg E.size len l with
        |none=>simp [hg] at h
        |some xs=>
         simp only [hg,Option.some.injEq] at h;subst h;exact abl ho hD hk (ht el E hE) hz.1 hz.2 (by rw [It s _ _ hp];exact hl) hg
   |_=>simp [hk] at h
theorem acn {op:BinOp} {t ty:Nat} {x y:Operand} (ho:o.op=.binOp op t x y ty) (h:IB op (s.ev x) (s.ev y)=some e):di P o s e:=by
 unfold IB at h;split at h
 ·rename_i k a k' b hx hy;split at h
  ·split at h
   ·cases h;exact aa9 ho hx hy (EC ‹_›).2
   ·cases h
  ·split at h
   ·cases h;exact aa_ ho hx hy (EC ‹_›).2
   ·cases h
  ·split at h
   ·cases h
   ·rename_i hk;have:=Iu hk;subst this;split at h
    ·split at h
     ·cases h;exact OJ ho hx hy (EC ‹_›).1
     ·cases h
    ·split at h
     ·cases h;exact OK ho hx hy (EC ‹_›).1
     ·cases h
    ·split at h
     ·cases h;exact aa8 ho hx hy ‹_›
     ·cases h
 ·split at h
  ·cases h;exact OL ho ‹_› ‹_› ‹_›
  ·cases h
 ·cases h
theorem Po {b:Builtin} {args:Array Operand} {gO:Array TypeId} {l:List AV} (ht:fK P tt) (ho:o.op=lZ b args gO) (hl:args.toList.map s.ev=l) (h:EE tt b l gO.toList=some e):di P o s e:=by
 obtain⟨args⟩:=args;obtain⟨gO⟩:=gO;unfold EE at h;split at h
 ·rename_i v t EG
  match args,hl with
  |[x],hl=>
   simp at hl;simp only at EG;cases hT:lk t tt with
   |none=>simp [hT] at h
   |some D=>
    have hD:=ht t D hT;simp only [hT] at h;subst EG;split at h
    ·split at h
     ·cases h;exact abd ho hD ‹_› hl ‹_›
     ·cases h
    ·split at h
     ·cases h;exact abe ho hD ‹_› hl
     ·cases h
    ·cases h;exact abf ho hD ‹_›
    ·cases h
 ·match args,hl with
  |[x,y],hl=>
   simp at hl;split at h
   ·rename_i hk;have:=Iu hk;subst this;cases h;exact abg ho hl.1 hl.2
   ·cases h
  |[],hl=>simp at hl
  |[_],hl=>simp at hl
  |_::_::_::_,hl=>simp at hl
 ·match args,hl with
  |[x,y],hl=>
   simp at hl;split at h
   ·rename_i hk;have:=Iu hk;subst this;cases h;exact abh ho hl.1 hl.2
   ·cases h
  |[],hl=>simp at hl
  |[_],hl=>simp at hl
  |_::_::_::_,hl=>simp at hl
 ·cases h
theorem aco (ht:fK P tt) (h:EF tt o s=some e):di P o s e:=by
 unfold EF at h;split at h
 ·rename_i x ho;split at h
  ·cases h;exact aaB ho (force_eq ‹_›)
  ·cases h
 ·rename_i x ho;split at h
  ·cases h;exact aaC ho (force_eq ‹_›)
  ·cases h
 ·rename_i x y z ho;split at h
  ·split at h
   ·cases h;exact Ow (b:=true) ho ‹_› (force_eq ‹_›)
   ·cases h
  ·split at h
   ·cases h;exact Ow (b:=false) ho ‹_› (force_eq ‹_›)
   ·cases h
  ·cases h
 ·rename_i T ho;split at h
  ·cases h
  ·split at h
   ·cases h
   ·split at h
    ·cases h;exact aaF ho (ht _ _ ‹_›) ‹_›
    ·cases h
 ·rename_i T x ho;split at h
  ·cases h
  ·split at h
   ·cases h
   ·rename_i k size bytes zero hT;have eS:s.ev x≠.bot:=by intro hq;rw [hq] at h;simp at h
    generalize hq:s.ev x=q at h eS;split at h
    ·exact absurd rfl eS
    ·split at h
     ·rename_i hc;simp only [Bool.and_eq_true] at hc;split at h
      ·rename_i v hv;have:=force_eq hv;subst this;cases h;exact aaG ho (ht _ _ hT) hq eS hc.1 hc.2
      ·cases h
     ·cases h
 ·exact acg ht ‹_› h
 ·exact ach ht ‹_› h
 ·exact aci ht ‹_› h
 ·exact acj ht ‹_› h
 ·exact ack ht ‹_› h
 ·exact acm ht ‹_› h
 ·split at h
  ·split at h
   ·cases h;exact aa4 ‹_› ‹_› (yj _ _ _ ‹_›)
   ·cases h
  ·cases h
 ·exact acn ‹_› h
 ·split at h
  ·split at h
   ·cases h;exact aba ‹_› ‹_› ‹_›
   ·cases h
  ·cases h
 ·split at h
  ·split at h
   ·cases h;exact abb ‹_› (ht _ _ ‹_›) (ht _ _ ‹_›) ‹_› ‹_› ‹_›
   ·cases h
  ·cases h
 ·split at h
  ·cases h
  ·split at h
   ·split at h
    ·cases h
    ·split at h
     ·cases h
     ·rename_i hn;obtain⟨h1,h2,h3⟩:=EB hn;split at h
      ·cases h;exact OI ‹_› (ht _ _ ‹_›) ‹_› (ht _ _ ‹_›) ‹_› ‹_› h1 h2 (by rw [h3];assumption)
      ·cases h
   ·cases h
 ·split at h
  ·split at h
   ·cases h
   ·split at h
    ·cases h
    ·cases h;exact abi ‹_› (uc s _ _ ‹_›) (uc s _ _ ‹_›)
  ·cases h
 ·rename_i c ho;obtain⟨callee,args,gO⟩:=c;dsimp only at h;split at h
  ·split at h
   ·cases h
   ·exact Po ht ho (uc s _ _ ‹_›) h
  ·cases h
 ·cases h
def mD (s:St):List Nat→Bool
 |[]=>true
 |b::l=>match lk b s.m with
  |none=>Nat.blt b 1000&&mD s l
  |some _=>false
theorem Bl:∀{l:List Nat},mD s l=true→∀b∈l,Fr s b
 |b::l,h,b',hb=>by
  simp only [mD] at h;cases hq:lk b s.m with
  |some _=>simp [hq] at h
  |none=>
   simp only [hq,Bool.and_eq_true] at h;rcases List.mem_cons.1 hb with rfl|hb
   ·exact⟨hq,by simpa using h.1⟩
   ·exact Bl h.2 b' hb
def Go (P:Program) (ops:Array Oper) (draw:Bool) (Q:St→Prop) (l:List Oper) (s:St) (acc:List (Option ec)):Prop:=
 ∃r,r.length=l.length∧(draw=true→vq ops (items 0 ops.toList (acc.reverse++r))=true)∧∀i,iq P ops Q (items i l r) s
variable{ops:Array Oper} {draw:Bool} {Q:St→Prop} {acc:List (Option ec)} {l:List Oper}
theorem aI (hd:draw=true→vq ops (items 0 ops.toList acc.reverse)=true) (h:Q s):Go P ops draw Q [] s acc:=
 ⟨[],rfl,by simpa using hd,fun _=>h⟩
theorem Pp (hg:eG ops s o=some true) (ha:di P o s e) (hn:mD s e.nw=true) (h:Go P ops draw Q l (s.app o.dst e) (some e::acc)):Go P ops draw Q (o::l) s acc:=by
 obtain⟨r,h1,h2,h3⟩:=h;refine⟨some e::r,by simp [h1],by simpa using h2,fun i=>⟨⟨hg,ha,Bl hn⟩,h3 (i+1)⟩⟩
theorem acp (hg:eG ops s o=some false) (h:Go P ops draw Q l (s.app o.dst Eh) (none::acc)):Go P ops draw Q (o::l) s acc:=by
 obtain⟨r,h1,h2,h3⟩:=h;exact⟨none::r,by simp [h1],by simpa using h2,fun i=>⟨hg,h3 (i+1)⟩⟩
def fX (n:Nat) (t:List (Nat×AV)) (dst:Option Nat) (v:AV):Option (List (Nat×AV)):=
 match dst with
 |none=>some t
 |some d=>match Nat.blt d n with
  |true=>some ((d,v)::t)
  |false=>some t
def l9:Mem→Mem→Option Mem
 |[],m=>some m
 |p::l,m=>match l9 l m with
  |some r=>some (p::r)
  |none=>none
theorem IC {n:Nat} {t t':List (Nat×AV)} {m:Mem} {dst:Option Nat} {v:AV} (h:fX n t dst v=some t'):(St.put ⟨n,t,m⟩ dst v).t=t':=by
 unfold fX at h;unfold St.put;cases dst with
 |none=>simpa using h
 |some d=>
  dsimp only at h⊢;cases hb:Nat.blt d n with
  |true=>rw [hb] at h;simpa using h
  |false=>rw [hb] at h;simpa using h
theorem ID:∀{w m r:Mem},l9 w m=some r→w++m=r
 |[],m,r,h=>by simpa [l9] using h
 |p::l,m,r,h=>by
  simp only [l9] at h;cases h1:l9 l m with
  |none=>simp [h1] at h
  |some q=>simp [h1] at h;subst h;simp [ID h1]
def o7 (tt:TT) (ops:Array Oper):Nat→List Oper→Nat→List (Nat×AV)→Mem→List (Option ec)→Option (List Oper×List (Nat×AV)×Mem×List (Option ec))
 |0,l,_,t,m,acc=>some (l,t,m,acc)
 |_+1,[],_,_,_,_=>none
 |k+1,o::l,n,t,m,acc=>match eG ops ⟨n,t,m⟩ o with
  |some true=>match EF tt o ⟨n,t,m⟩ with
   |some ⟨v,wr,ac,nw⟩=>match mD ⟨n,t,m⟩ nw with
    |true=>match fX n t o.dst v with
     |some t'=>match l9 wr m with
      |some m'=>o7 tt ops k l n t' m' (some ⟨v,wr,ac,nw⟩::acc)
      |none=>none
     |none=>none
    |false=>none
   |none=>none
  |some false=>match fX n t o.dst (.cz []) with
   |some t'=>o7 tt ops k l n t' m (none::acc)
   |none=>none
  |none=>none
theorem Hq (ht:fK P tt):∀(k:Nat) {l:List Oper} {n:Nat} {t:List (Nat×AV)} {m:Mem} {acc:List (Option ec)} {l':List Oper} {t':List (Nat×AV)} {m':Mem} {mu:List (Option ec)},o7 tt ops k l n t m acc=some (l',t',m',mu)→Go P ops draw Q l' ⟨n,t',m'⟩ mu→Go P ops draw Q l ⟨n,t,m⟩ acc
 |0,l,n,t,m,acc,l',t',m',mu,h,hg=>by simp [o7] at h;obtain⟨rfl,rfl,rfl,rfl⟩:=h;exact hg
 |k+1,[],n,t,m,acc,l',t',m',mu,h,hg=>by simp [o7] at h
 |k+1,o::l,n,t,m,acc,l',t',m',mu,h,hg=>by
  simp only [o7] at h;cases h1:eG ops ⟨n,t,m⟩ o with
  |none=>simp [h1] at h
  |some b=>
   cases b with
   |false=>
    simp only [h1] at h;cases h4:fX n t o.dst (.cz []) with
    |none=>simp [h4] at h
    |some t1=>
     simp only [h4] at h;refine acp h1 ?_;have e:St.app ⟨n,t,m⟩ o.dst Eh=⟨n,t1,m⟩:=by simp only [St.app,Eh,IC (m:=m) h4,List.nil_append]
     rw [e];exact Hq ht k h hg
   |true=>
    simp only [h1] at h;cases h2:EF tt o ⟨n,t,m⟩ with
    |none=>simp [h2] at h
    |some e=>
     obtain⟨v,wr,ac,nw⟩:=e;simp only [h2] at h;cases h3:mD ⟨n,t,m⟩ nw with
     |false=>simp [h3] at h
     |true=>
      simp only [h3] at h;cases h4:fX n t o.dst v with
      |none=>simp [h4] at h
      |some t1=>
       simp only [h4] at h;cases h5:l9 wr m with
       |none=>simp [h5] at h
       |some m1=>
        simp only [h5] at h;refine Pp h1 (aco ht h2) h3 ?_;have e:St.app ⟨n,t,m⟩ o.dst ⟨v,wr,ac,nw⟩=⟨n,t1,m1⟩:=by simp only [St.app,IC (m:=m) h4,ID h5]
        rw [e];exact Hq ht k h hg
theorem eA {o:Oper} {n:Nat} {t t':List (Nat×AV)} {m m':Mem} {v:AV} {wr:Mem} {ac nw:List Nat} (hg:eG ops ⟨n,t,m⟩ o=some true) (ha:di P o ⟨n,t,m⟩ ⟨v,wr,ac,nw⟩) (hn:mD ⟨n,t,m⟩ nw=true) (hp:fX n t o.dst v=some t') (hm:l9 wr m=some m')
  (h:Go P ops draw Q l ⟨n,t',m'⟩ (some ⟨v,wr,ac,nw⟩::acc)):Go P ops draw Q (o::l) ⟨n,t,m⟩ acc:=by
 refine Pp hg ha hn ?_;have e:St.app ⟨n,t,m⟩ o.dst ⟨v,wr,ac,nw⟩=⟨n,t',m'⟩:=by simp only [St.app,IC (m:=m) hp,ID hm]
 rw [e];exact h
theorem fJ {id:Nat} {Q:Exit→St→Prop} (cL:P.follows .mixedOrders=true) (h:Go P ops draw (Q .normal) ops.toList s []):dW P lim (.region id ops draw) Q s:=by
 obtain⟨r,h1,h2,h3⟩:=h;exact abW cL h1.symm (by simpa using h2) (h3 0)
def pV:Nat→List AV→Option (List (Nat×AV))
 |_,[]=>some []
 |k,a::l=>match force a with
  |none=>none
  |some v=>match pV (k+1) l with
   |none=>none
   |some r=>some ((k,v)::r)
theorem yl:∀{k:Nat} {l:List AV} {r:List (Nat×AV)},pV k l=some r→tX k l=r
 |k,[],r,h=>by simp [pV] at h;subst h;rfl
 |k,a::l,r,h=>by
  simp only [pV] at h;cases h1:force a with
  |none=>simp [h1] at h
  |some v=>
   cases h2:pV (k+1) l with
   |none=>simp [h1,h2] at h
   |some q=>simp [h1,h2] at h;subst h;simp [tX,yl h2,force_eq h1]
theorem bO {f n:Nat} {fn:Func} {body:Code} {args:List AV} {M:Mem} {r:AV} {M':Mem} {t:List (Nat×AV)} (hf:P.funcs[f]?=some fn) (hb:fn.body=some body) (hn:fn.ntmps=n) (hlen:Nat.ble args.length n=true) (hM:tY M=true) (ht:pV 0 args=some t)
  (h:∀lim,dW P lim body (pT (n9 P fn M r M')) ⟨n,t,M⟩):Holds P f args M r M':=
 abZ hf hb hn hlen hM (by rw [yl ht];exact h)
def bI (P:Program) (f:Nat):Prop:=∃fn,P.funcs[f]?=some fn∧(fn.name== "runtime.NumGoroutine")=false∧fn.body.isNone=false
mutual
theorem ag {m:Mem} {ρ:cZ}:∀(a:AV),fp a=true→bX m ρ a a
 |.bot,_=>by simp [bX]
 |.sc v,_=>by
  simp only [bX];unfold tU;split
  ·simp_all
  ·simp_all
  ·rfl
 |.b9,_=>by simp [bX]
 |.agg cs,h=>by simp only [bX];exact ym cs (by simpa [fp] using h)
 |.cz cs,h=>by simp only [bX];exact ym cs (by simpa [fp] using h)
 |.sl xs,_=>by simp [bX]
 |.vp cs,_=>by simp [bX]
 |.ref _ _ _,h=>by simp [fp] at h
 |.arr _ _ _,h=>by simp [fp] at h
 |.db _ a b,h=>by
  simp only [fp,Bool.and_eq_true] at h;simp only [bX];exact⟨trivial,ym a h.1,ym b h.2⟩
 |.jb _ _ _,h=>by simp [fp] at h
 |.ju _,_=>by simp [bX]
theorem ym {m:Mem} {ρ:cZ}:∀(l:List AV),qS l=true→gP m ρ l l
 |[],_=>by simp [gP]
 |a::l,h=>by
  simp only [qS,Bool.and_eq_true] at h;simp only [gP];exact⟨ag a h.1,ym l h.2⟩
end
theorem uh {o:Oper} {n f:Nat} {t t':List (Nat×AV)} {m:Mem} {xs:Array Operand} {gO:Array TypeId} {gZ args:List AV} {L:Mem} {r v:AV} (hf:bI P f) (H:Holds P f args [] r []) (hg:eG ops ⟨n,t,m⟩ o=some true) (ho:o.op=pg (.func f) xs gO) (pj:oc ⟨n,t,m⟩ xs.toList=some gZ)
  (hL:mA [] m L) (fW:gP L [] gZ args) (hv:force r=some v) (hr:fp v=true) (mB:L≠[]→iU v=true) (hp:fX n t o.dst v=some t') (h:Go P ops draw Q l ⟨n,t',m⟩ (some ⟨v,[],L.map (·.1),[]⟩::acc)):Go P ops draw Q (o::l) ⟨n,t,m⟩ acc:=by
 obtain⟨fn,h1,h2,h3⟩:=hf;have IE:=force_eq hv;subst IE;refine eA hg (EA (M:=[]) (M':=[]) (L:=L) (W:=[]) (ρ:=[]) (σ:=[]) ho h1 h2 h3 rfl (by rw [uc _ _ _ pj];simp) H hL fW rfl rfl trivial rfl rfl trivial (ag r hr) rfl (fun eS=>⟨mB eS,trivial⟩)) rfl hp rfl h
theorem aW {o:Oper} {n f:Nat} {t t':List (Nat×AV)} {m:Mem} {xs:Array Operand} {gO:Array TypeId} {gZ:List AV} {r v:AV} (hf:bI P f) (H:Holds P f gZ [] r []) (hg:eG ops ⟨n,t,m⟩ o=some true) (ho:o.op=pg (.func f) xs gO) (pj:oc ⟨n,t,m⟩ xs.toList=some gZ)
  (fW:qS gZ=true) (hv:force r=some v) (hr:fp v=true) (hp:fX n t o.dst v=some t') (h:Go P ops draw Q l ⟨n,t',m⟩ (some ⟨v,[],[],[]⟩::acc)):Go P ops draw Q (o::l) ⟨n,t,m⟩ acc:=
 uh hf H hg ho pj (L:=[]) trivial (ym gZ fW) hv hr (fun h=>absurd rfl h) hp h
theorem aq {next:St→Prop} {Q:Exit→St→Prop} (h:next s):iE next Q .normal s:=h
theorem aJ {next:St→Prop} {Q:Exit→St→Prop} (h:Q .ret s):iE next Q .ret s:=h
theorem bg {next:St→Prop} {Q:Exit→St→Prop} {id:Nat} (h:Q (.exit id) s):iE next Q (.exit id) s:=h
theorem bP {Q:Exit→St→Prop} {id:Nat} (h:Q .normal s):pf id Q .normal s:=h
theorem aZ {Q:Exit→St→Prop} {id:Nat} (h:Q .ret s):pf id Q .ret s:=h
theorem cE {Q:Exit→St→Prop} {id:Nat} (h:Q .normal s):pf id Q (.exit id) s:=by simp only [pf,if_true];exact h
theorem vL {F:St→Prop} (h:F s):pT F .normal s:=h
theorem ao {F:St→Prop} (h:F s):pT F .ret s:=h
theorem bu {o:Oper} {j d:Nat} {want b:Bool} (asi:o.guard=some (j,want)) (_hj:(ops[j]?).bind (·.dst)=some d) (_hb:s.get d=.sc (.bool b)) (h1:b=true→Go P ops draw Q (o::l) s acc) (h2:b=false→Go P ops draw Q (o::l) s acc):Go P ops draw Q (o::l) s acc:=by
 cases b
 ·exact h2 rfl
 ·exact h1 rfl
end
end Go.Ab
namespace Go.Ab
open Go.RowKit
variable{lim:Nat}
section
variable{P:Program} {tt:TT}
def sd (t:List (Nat×AV)):List Nat→Option (List (Nat×AV))
 |[]=>some []
 |k::l=>match lk k t with
  |none=>none
  |some v=>match force v with
   |none=>none
   |some u=>match sd t l with
    |none=>none
    |some r=>some ((k,u)::r)
def se (m:Mem):List Nat→Option Mem
 |[]=>some []
 |b::l=>match lk b m with
  |some (some k)=>match se m l with
   |none=>none
   |some r=>some ((b,some k)::r)
  |_=>none
mutual
def sf (ρ:cZ):AV→Bool
 |.ref b _ _=>match lk b ρ with
  |some (some b')=>Nat.beq b' b
  |_=>false
 |.arr b _ _=>match lk b ρ with
  |some (some b')=>Nat.beq b' b
  |_=>false
 |.jb b _ _=>match lk b ρ with
  |some (some b')=>Nat.beq b' b
  |_=>false
 |.agg cs=>ui ρ cs
 |.cz cs=>ui ρ cs
 |.db _ a b=>ui ρ a&&ui ρ b
 |_=>true
def ui (ρ:cZ):List AV→Bool
 |[]=>true
 |c::cs=>sf ρ c&&ui ρ cs
end
theorem EH {ρ:cZ} {b:Nat} (h:(match lk b ρ with|some (some b')=>Nat.beq b' b|_=>false)=true):lk b ρ=some (some b):=by
 cases hq:lk b ρ with
 |none=>simp [hq] at h
 |some o=>
  cases o with
  |none=>simp [hq] at h
  |some b'=>
   simp only [hq] at h;have:=Nat.eq_of_beq_eq_true h;subst this;rfl
mutual
theorem J {m:Mem} {ρ:cZ}:∀(a:AV),sf ρ a=true→bX m ρ a a
 |.bot,_=>by simp [bX]
 |.sc v,_=>by
  simp only [bX];unfold tU;split
  ·simp_all
  ·simp_all
  ·rfl
 |.b9,_=>by simp [bX]
 |.agg cs,h=>by simp only [bX];exact yn cs (by simpa [sf] using h)
 |.cz cs,h=>by simp only [bX];exact yn cs (by simpa [sf] using h)
 |.sl xs,_=>by simp [bX]
 |.vp cs,_=>by simp [bX]
 |.ref b _ _,h=>by simp only [bX];exact⟨EH (by simpa only [sf] using h),trivial,trivial⟩
 |.arr b _ _,h=>by simp only [bX];exact⟨EH (by simpa only [sf] using h),trivial,trivial⟩
 |.db _ a b,h=>by
  simp only [sf,Bool.and_eq_true] at h;simp only [bX];exact⟨trivial,yn a h.1,yn b h.2⟩
 |.jb b _ _,h=>by simp only [bX];exact⟨EH (by simpa only [sf] using h),trivial,trivial⟩
 |.ju _,_=>by simp [bX]
theorem yn {m:Mem} {ρ:cZ}:∀(l:List AV),ui ρ l=true→gP m ρ l l
 |[],_=>by simp [gP]
 |a::l,h=>by
  simp only [ui,Bool.and_eq_true] at h;simp only [gP];exact⟨J a h.1,yn l h.2⟩
end
theorem Pq:∀(l:List AV),vB l l
 |[]=>trivial
 |_::l=>⟨rfl,Pq l⟩
def yo (ρ:cZ):List (Nat×AV)→Bool
 |[]=>true
 |(_,v)::l=>sf ρ v&&yo ρ l
def yp (ρ:cZ):Mem→Bool
 |[]=>true
 |(b,some k)::l=>(match lk b ρ with|some (some b')=>Nat.beq b' b|_=>false)&&ui ρ k.xs&&yp ρ l
 |(_,none)::_=>false
theorem vM {ρ:cZ} {n:Nat} {t:List (Nat×AV)} {m:Mem}:∀{K:List Nat} {kt:List (Nat×AV)},sd t K=some kt→yo ρ kt=true→pd ρ ⟨n,t,m⟩ kt
 |[],kt,h,_=>by simp [sd] at h;subst h;trivial
 |k::l,kt,h,hi=>by
  simp only [sd] at h;cases h1:lk k t with
  |none=>simp [h1] at h
  |some v=>
   cases h2:force v with
   |none=>simp [h1,h2] at h
   |some u=>
    cases h3:sd t l with
    |none=>simp [h1,h2,h3] at h
    |some r=>
     simp [h1,h2,h3] at h;subst h;simp only [yo,Bool.and_eq_true] at hi;have:=force_eq h2;subst this;refine⟨?_,vM h3 hi.2⟩;have hg:St.get ⟨n,t,m⟩ k=v:=by simp [St.get,h1]
     rw [hg];exact J v hi.1
theorem vN {ρ:cZ} {m:Mem}:∀{K:List Nat} {km:Mem},se m K=some km→yp ρ km=true→eT ρ m km
 |[],km,h,_=>by simp [se] at h;subst h;trivial
 |b::l,km,h,hi=>by
  simp only [se] at h;cases h1:lk b m with
  |none=>simp [h1] at h
  |some ok=>
   cases ok with
   |none=>simp [h1] at h
   |some k=>
    cases h3:se m l with
    |none=>simp [h1,h3] at h
    |some r=>
     simp [h1,h3] at h;subst h;simp only [yp,Bool.and_eq_true] at hi;refine⟨?_,vN h3 hi.2⟩;rw [EH hi.1.1];exact⟨k,h1,rfl,rfl,.inr ⟨yn _ hi.1.2,Pq _⟩⟩
theorem Bm {ρ:cZ} {s:St}:∀{a b:List (Nat×AV)},pd ρ s a→pd ρ s b→pd ρ s (a++b)
 |[],_,_,h=>h
 |(_,_)::_,_,h,h'=>⟨h.1,Bm h.2 h'⟩
theorem Bn {ρ:cZ} {m:Mem}:∀{a b:Mem},eT ρ m a→eT ρ m b→eT ρ m (a++b)
 |[],_,_,h=>h
 |(_,none)::_,_,h,_=>by simp [eT] at h
 |(_,some _)::_,_,h,h'=>⟨h.1,Bn h.2 h'⟩
structure Fits (K KB:List Nat) (kt:List (Nat×AV)) (km:Mem) (ρ:cZ) (s:St) (mt:List (Nat×AV)) (mm:Mem):Prop where
 k:sd s.t K=some kt
 kb:se s.m KB=some km
 EI:pe ρ (mm++km)=true
 EJ:yo ρ kt=true
 EK:yp ρ km=true
 t:pd ρ s mt
 m:eT ρ s.m mm
theorem acq {X:Type} {body:Code} {Q:Exit→St→Prop} {n:Nat} {t:List (Nat×AV)} {m:Mem} (K KB:List Nat) (mt:X→List (Nat×AV)) (mm:X→Mem) (μ:X→Nat) (x0:X) (rY:cZ) {kt:List (Nat×AV)} {km:Mem}
  (h0:Fits K KB kt km rY ⟨n,t,m⟩ (mt x0) (mm x0))
  (step:∀x,dW P lim body (iE (fun s'=>s'.n=n∧∃x' ρ,Fits K KB kt km ρ s' (mt x') (mm x')∧μ x'<μ x) Q) ⟨n,mt x++kt,mm x++km⟩):dW P lim (.loop body) Q ⟨n,t,m⟩:=by
 refine abP (fun x=>⟨n,mt x++kt,mm x++km⟩) μ x0 ⟨rY,rfl,h0.EI,Bm h0.t (vM h0.k h0.EJ),Bn h0.m (vN h0.kb h0.EK)⟩ (fun x=>?_);intro c ep a w hs;refine wp_mono (step x c ep a w hs) ?_;rintro e a' w' ⟨s',cJ,hq⟩;refine⟨s',cJ,?_⟩;cases e with
 |normal=>
  obtain⟨hn,x',ρ,hf,cn⟩:=hq;obtain⟨n',t',m'⟩:=s';exact⟨x',ρ,⟨hn,hf.EI,Bm hf.t (vM hf.k hf.EJ),Bn hf.m (vN hf.kb hf.EK)⟩,cn⟩
 |_=>exact hq
variable{ops:Array Oper} {draw:Bool} {Q:St→Prop} {acc:List (Option ec)} {l:List Oper}
theorem acr {o:Oper} {n ty el:Nat} {t t':List (Nat×AV)} {m:Mem} {x y:Operand} {D E:af} {k:IntKind} {i:Int} {xs:List AV} {ev:AV} (ht:fK P tt) (jd:0≤i) (he:xs[i.toNat]?=some ev) (hg:eG ops ⟨n,t,m⟩ o=some true) (ho:o.op=.indexAddr ty x y) (hD:lk ty tt=some D) (hk:D.k=.slice el) (hE:lk el tt=some E)
  (hx:(⟨n,t,m⟩:St).ev x=.sl xs) (hy:(⟨n,t,m⟩:St).ev y=.sc (.int k i)) (hl:Nat.beq ev.cells.length E.size=true) (hp:fX n t o.dst (.vp ev.cells)=some t') (h:Go P ops draw Q l ⟨n,t',m⟩ (some ⟨.vp ev.cells,[],[],[]⟩::acc)):Go P ops draw Q (o::l) ⟨n,t,m⟩ acc:=
 eA hg (OD ho (ht _ _ hD) hk (ht _ _ hE) hx hy jd he hl) rfl hp rfl h
def pW (tt:TT) (s:St):List ResultVar→Option (List AV)
 |[]=>some []
 |.tmp t::l=>match force (s.get t) with
  |none=>none
  |some v=>match pW tt s l with
   |none=>none
   |some r=>some (v::r)
 |.cell a t::l=>match s.get a with
  |.ref b i off=>match lk b s.m with
   |some (some k)=>match lk t tt with
    |none=>none
    |some D=>match nj k.xs i with
     |none=>none
     |some e=>match rd D e.cells off with
      |none=>none
      |some v=>match pW tt s l with
       |none=>none
       |some r=>some (v::r)
   |_=>none
  |_=>none
theorem EL (ht:fK P tt) {s:St}:∀{rs:List ResultVar} {vs:List AV},pW tt s rs=some vs→pS P s rs vs
 |[],vs,h=>by simp [pW] at h;subst h;trivial
 |.tmp t::l,vs,h=>by
  simp only [pW] at h;cases h1:force (s.get t) with
  |none=>simp [h1] at h
  |some v=>
   cases h2:pW tt s l with
   |none=>simp [h1,h2] at h
   |some r=>
    simp [h1,h2] at h;subst h;exact⟨force_eq h1,EL ht h2⟩
 |.cell a t::l,vs,h=>by
  simp only [pW] at h;cases h1:s.get a with
  |ref b i off=>
   simp only [h1] at h;cases h2:lk b s.m with
   |none=>simp [h2] at h
   |some ok=>
    cases ok with
    |none=>simp [h2] at h
    |some k=>
     simp only [h2] at h;cases h3:lk t tt with
     |none=>simp [h3] at h
     |some D=>
      simp only [h3] at h;cases h4:nj k.xs i with
      |none=>simp [h4] at h
      |some e=>
       simp only [h4] at h;cases h5:rd D e.cells off with
       |none=>simp [h5] at h
       |some v=>
        simp only [h5] at h;cases h6:pW tt s l with
        |none=>simp [h6] at h
        |some r=>
         simp [h6] at h;subst h;exact⟨⟨D,b,i,off,k,e,ht _ _ h3,h1,h2,yj _ _ _ h4,h5⟩,EL ht h6⟩
  |_=>simp [h1] at h
def vO:List AV→Option AV
 |[]=>some (.cz [])
 |[v]=>some v
 |v::u::l=>some (.cz (v::u::l))
theorem Pr {vs:List AV} {v:AV} (h:vO vs=some v):vD vs=v:=by
 match vs,h with
 |[],h=>simpa [vO,vD] using h
 |[x],h=>simpa [vO,vD] using h
 |x::y::l,h=>simpa [vO,vD] using h
theorem aw {fn:Func} {s:St} {vs:List AV} {v r:AV} (ht:fK P tt) (hr:pW tt s fn.results.toList=some vs) (hv:vO vs=some v) (h:bX [] [] v r):n9 P fn [] r [] s:=
 ⟨vs,[],EL ht hr,rfl,rfl,by rw [Pr hv];exact h,trivial⟩
theorem eD {fn:Func} {s:St} {vs:List AV} {v r:AV} {M M':Mem} (ρ:cZ) (ht:fK P tt) (hr:pW tt s fn.results.toList=some vs) (hv:vO vs=some v) (h1:pe ρ M'=true) (h2:Ie ρ M M'=true) (h:bX [] ρ v r) (hm:eT ρ s.m M'):n9 P fn M r M' s:=
 ⟨vs,ρ,EL ht hr,h1,h2,by rw [Pr hv];exact h,hm⟩
end
end Go.Ab
namespace Go.Ab
open Go.RowKit Go.WideShapes Go.ChangeShapes
inductive Sh where
 |int (k:IntKind)
 |bool
 |str
 |slice (e:Sh)
 |struct (fs:List Sh)
mutual
def Sh.size:Sh→Nat
 |.int _=>1
 |.bool=>1
 |.str=>1
 |.slice _=>1
 |.struct fs=>Sh.pk fs
def Sh.pk:List Sh→Nat
 |[]=>0
 |f::fs=>Sh.size f+Sh.pk fs
end
def Sh.pack:Sh→List AV→AV
 |.struct _,cs=>.agg cs
 |_,[c]=>c
 |_,cs=>.agg cs
mutual
def dt:Sh→List AV→Prop
 |.int k,cs=>∃n,cs=[.sc (.int k n)]∧k.min≤n∧n≤k.max
 |.bool,cs=>∃b,cs=[.sc (.bool b)]
 |.str,cs=>∃s:ByteArray,cs=[.sc (.string s)]∧s.size≤maxLen
 |.slice e,cs=>∃xs:List AV,cs=[.sl xs]∧xs.length≤maxLen∧∀x,x∈xs→∃ef,x=e.pack ef∧dt e ef
 |.struct fs,cs=>dE fs cs
def dE:List Sh→List AV→Prop
 |[],cs=>cs=[]
 |f::fs,cs=>∃a b,cs=a++b∧dt f a∧dE fs b
end
def Of (s:Sh) (a:AV):Prop:=∃cs,a=s.pack cs∧dt s cs
def EM (n:Nat) (e:TypeId) (z:Nat):List Field:=(List.range n).map fun i=>{name:= "",type:=e,offset:=i*z,embedded:=false,tag:= "",pkgPath:= "",byteOffset:=0}
mutual
def mE (P:Program):Sh→TypeId→Bool
 |.int k,t=>match P.underlying t with
  |some (.int k')=>decide (k'=k)
  |_=>false
 |.bool,t=>match P.underlying t with
  |some .bool=>true
  |_=>false
 |.str,t=>match P.underlying t with
  |some .string=>true
  |_=>false
 |.slice e,t=>match P.underlying t with
  |some (.slice u)=>mE P e u&&(decide (P.cellsOf u=e.size)&&decide (0<e.size))
  |_=>false
 |.struct fs,t=>match P.underlying t with
  |some (.struct gs)=>vP P fs gs.toList 0&&decide (P.cellsOf t=Sh.pk fs)
  |some (.array n e)=>vP P fs (EM n e (P.cellsOf e)) 0&&decide (P.cellsOf t=Sh.pk fs)
  |_=>false
def vP (P:Program):List Sh→List Field→Nat→Bool
 |[],[],_=>true
 |f::fs,g::gs,o=>decide (g.offset=o)&&(mE P f g.type&&(decide (P.cellsOf g.type=f.size)&&vP P fs gs (o+f.size)))
 |_,_,_=>false
end
def pX (ps:List MemPlace) (n:Nat):Prop:=∃p,p∈ps∧p.block=n
theorem Rel.more {w:World} {R R':Nat→Prop} {φ:Ph} {a:AV} {v:Value} (h:Rel w R φ a v) (hR:∀n,R n→R' n):Rel w R' φ a v:=
 h.mono (fun _ _=>rfl) hR (fun _ _ h=>h)
mutual
theorem dt.length:∀(s:Sh) (cs:List AV),dt s cs→cs.length=s.size
 |.int _,_,h=>by obtain⟨n,rfl,_⟩:=h;rfl
 |.bool,_,h=>by obtain⟨b,rfl⟩:=h;rfl
 |.str,_,h=>by obtain⟨b,rfl,_⟩:=h;rfl
 |.slice _,_,h=>by obtain⟨b,rfl,_⟩:=h;rfl
 |.struct fs,cs,h=>by rw [dt] at h;rw [Sh.size];exact dE.length fs cs h
theorem dE.length:∀(fs:List Sh) (cs:List AV),dE fs cs→cs.length=Sh.pk fs
 |[],cs,h=>by rw [dE] at h;subst h;rfl
 |f::fs,cs,h=>by
  rw [dE] at h;obtain⟨a,b,rfl,h1,h2⟩:=h;rw [List.length_append,dt.length f a h1,dE.length fs b h2,Sh.pk]
end
theorem pack_cells {s:Sh} {cs:List AV} (h:dt s cs):(s.pack cs).cells=cs:=by
 cases s with
 |int k=>obtain⟨n,rfl,_⟩:=h;rfl
 |bool=>obtain⟨b,rfl⟩:=h;rfl
 |str=>obtain⟨b,rfl,_⟩:=h;rfl
 |slice e=>rw [dt] at h;obtain⟨b,rfl,_⟩:=h;rfl
 |struct fs=>rfl
section
variable{H:Type} {enc:TypeId×Value→H} {P:Program} {w:World} {held:Bool}
theorem acu {base:Nat} {a:Addr} {n:Nat} {l:List Value} (h:w.cells? base a n=some l):l.length=n∧∀i v,l[i]?=some v→w.cell? (a.add i)=some v:=by
 unfold World.cells? at h;split at h
 ·have hlen:l.length=n:=by simpa using mapM_some_length h
  refine⟨hlen,fun i v hv=>?_⟩
  have hi:i<n:=by
   have:=(List.getElem?_eq_some_iff.1 hv).1;omega
  have:=mapM_some_get h i i (by simp [hi]);rw [hv] at this;exact this
 ·cases h
mutual
theorem IF:∀(s:Sh) (t fuel:Nat) (cs:List Value) (x:DataW H×List MemPlace),mE P s t=true→DataW.trod enc P w 0 (fun _=>true) held fuel t cs=some x→
  ∃kN,dt s kN∧kN.length=cs.length∧∀(i:Nat) (a:AV) (v:Value),kN[i]?=some a→cs[i]?=some v→Rel w (pX x.2) Ph.no a v
 |.int k,t,fuel,cs,x,hf,h=>by
  rw [mE] at hf;split at hf
  ·rename_i k' ht;obtain rfl:=of_decide_eq_true hf;obtain⟨n,rfl,rfl,hw⟩:=DataW.trod_int ht h;simp only [Lit.wf,Bool.and_eq_true,decide_eq_true_eq] at hw;refine⟨[.sc (.int k' n)],by rw [dt];exact⟨n,rfl,hw⟩,rfl,?_⟩;intro i a v h1 h2;cases i with
   |zero=>simp at h1 h2;subst h1;subst h2;exact .sc rfl
   |succ i=>simp at h1
  ·cases hf
 |.bool,t,fuel,cs,x,hf,h=>by
  rw [mE] at hf;split at hf
  ·rename_i ht;obtain⟨n,rfl,rfl⟩:=DataW.trod_bool ht h;refine⟨[.sc (.bool n)],by rw [dt];exact⟨n,rfl⟩,rfl,?_⟩;intro i a v h1 h2;cases i with
   |zero=>simp at h1 h2;subst h1;subst h2;exact .sc rfl
   |succ i=>simp at h1
  ·cases hf
 |.str,t,fuel,cs,x,hf,h=>by
  rw [mE] at hf;split at hf
  ·rename_i ht;obtain⟨n,rfl,rfl,hw⟩:=DataW.trod_string ht h;refine⟨[.sc (.string n)],by rw [dt];exact⟨n,rfl,hw⟩,rfl,?_⟩;intro i a v h1 h2;cases i with
   |zero=>simp at h1 h2;subst h1;subst h2;exact .sc rfl
   |succ i=>simp at h1
  ·cases hf
 |.slice e,t,fuel,cs,x,hf,h=>by
  rw [mE] at hf;split at hf
  ·rename_i u ht;simp only [Bool.and_eq_true,decide_eq_true_eq] at hf;obtain⟨hf,ed,nh⟩:=hf;rcases DataW.trod_slice ht h with⟨rfl,rfl⟩|⟨a,len,cap,elems,rest,n,rfl,rfl,rfl,_,lE,hcm,iL,hg,_,_⟩
   ·refine⟨[.sl []],by rw [dt];exact⟨[],rfl,by simp,by simp⟩,rfl,?_⟩;intro i a v h1 h2;cases i with
    |zero=>simp at h1 h2;subst h1;subst h2;exact .jU
    |succ i=>simp at h1
   ·have each:∀i,i<len→∃(ef:List AV) (l:List Value) (z:DataW H×List MemPlace),dt e ef∧ef.length=l.length∧l.length=e.size∧elems[i]?=some z∧
      (∀j v,l[j]?=some v→w.cell? ((a.add (i*e.size)).add j)=some v)∧∀(j:Nat) (c:AV) (v:Value),ef[j]?=some c→l[j]?=some v→Rel w (pX z.2) Ph.no c v:=by
     intro i hi;have h1:=hg i hi;have cn:i<elems.length:=by omega
     rw [List.getElem?_eq_getElem cn,ed] at h1;rw [Option.bind_eq_some_iff] at h1;obtain⟨l,hl,hz⟩:=h1;obtain⟨Ps,lE⟩:=acu hl;obtain⟨ef,h2,h3,h4⟩:=IF e u n l _ hf hz;exact⟨ef,l,_,h2,h3,Ps,List.getElem?_eq_getElem cn,lE,h4⟩
    by_cases hz:len=0
    ·subst hz;refine⟨[.sl []],by rw [dt];exact⟨[],rfl,by simp,by simp⟩,rfl,?_⟩;intro i a' v h1 h2;cases i with
     |zero=>simp at h1 h2;subst h1;subst h2;exact .jU
     |succ i=>simp at h1
    ·have Pt:a.spot=none:=by
      obtain⟨ef,l,z,_,_,h3,_,h5,_⟩:=each 0 (by omega);have tP:0<l.length:=by omega
      have:=World.cell?_spot (h5 0 l[0] (List.getElem?_eq_getElem tP));simpa [Addr.add] using this
     obtain⟨b,o,spot⟩:=a;simp only at Pt;subst Pt
     have Pu:∀i:Fin len,∃q:List AV×List Value×(DataW H×List MemPlace),dt e q.1∧q.1.length=q.2.1.length∧q.2.1.length=e.size∧elems[i.1]?=some q.2.2∧
       (∀j v,q.2.1[j]?=some v→w.cell? ⟨b,o+(i.1*e.size+j),none⟩=some v)∧∀(j:Nat) (c:AV) (v:Value),q.1[j]?=some c→q.2.1[j]?=some v→Rel w (pX q.2.2.2) Ph.no c v:=by
      intro i;obtain⟨ef,l,z,h1,h2,h3,h4,h5,h6⟩:=each i.1 i.2;refine⟨(ef,l,z),h1,h2,h3,h4,fun j v hj=>?_,h6⟩;have:=h5 j v hj;rw [add_plain,add_plain,Nat.add_assoc] at this;exact this
     have pick:=fun i=>Classical.choose_spec (Pu i)
     let q:=fun i=>Classical.choose (Pu i)
     have hq:∀i,dt e (q i).1∧(q i).1.length=(q i).2.1.length∧(q i).2.1.length=e.size∧elems[i.1]?=some (q i).2.2∧
       (∀j v,(q i).2.1[j]?=some v→w.cell? ⟨b,o+(i.1*e.size+j),none⟩=some v)∧∀(j:Nat) (c:AV) (v:Value),(q i).1[j]?=some c→(q i).2.1[j]?=some v→Rel w (pX (q i).2.2.2) Ph.no c v:=pick
     clear pick;generalize q=q at hq;have kC:(List.ofFn fun i=>e.pack (q i).1).length=len:=by simp
     refine⟨[.sl (List.ofFn fun i=>e.pack (q i).1)],?_,rfl,?_⟩
     ·rw [dt];refine⟨_,rfl,by rw [kC];omega,fun x hx=>?_⟩;rw [List.mem_ofFn] at hx;obtain⟨i,rfl⟩:=hx;exact⟨_,rfl,(hq i).1⟩
     ·intro i a' v h1 h2;cases i with
      |succ i=>simp at h1
      |zero=>
       simp at h1 h2;subst h1;subst h2
       have k_:∀(i:Nat) (x:AV),(List.ofFn fun i=>e.pack (q i).1)[i]?=some x→∃hi:i<len,x=e.pack (q ⟨i,hi⟩).1:=by
        intro i x hx;rw [List.getElem?_ofFn] at hx;split at hx
        ·rename_i hi;simp at hx;exact⟨hi,hx.symm⟩
        ·cases hx
       have nS:∀k,k<len*e.size→∃hi:k/e.size<len,w.cell? ⟨b,o+k,none⟩=some ((q ⟨k/e.size,hi⟩).2.1.getD (k%e.size) undef):=by
        intro k hk;have hi:k/e.size<len:=by rw [Nat.div_lt_iff_lt_mul nh];exact hk
        refine⟨hi,?_⟩;obtain⟨_,_,h3,_,h5,_⟩:=hq ⟨k/e.size,hi⟩;have hm:k%e.size<(q ⟨k/e.size,hi⟩).2.1.length:=by rw [h3];exact Nat.mod_lt _ nh
        have:=h5 (k%e.size) _ (List.getElem?_eq_getElem hm);have hdm:k/e.size*e.size+k%e.size=k:=Nat.div_add_mod' k e.size;simp only [hdm] at this;rw [this];simp [List.getD,List.getElem?_eq_getElem hm]
       have xY:pX (MemPlace.row ⟨b,o,none⟩ ((elems.length+rest.length)*P.cellsOf u)++(elems++rest).flatMap (·.2)) b:=by
        refine⟨.cell b o,List.mem_append_left _ ?_,rfl⟩;unfold MemPlace.row;refine List.mem_map.2 ⟨0,?_,by simp⟩;rw [List.mem_range,ed];exact Nat.mul_pos (by omega) nh
       have key:Rel w (pX (MemPlace.row ⟨b,o,none⟩ ((elems.length+rest.length)*P.cellsOf u)++(elems++rest).flatMap (·.2))) Ph.no (.sl (List.ofFn fun i=>e.pack (q i).1))
         (.slice (some ⟨b,o,none⟩) (List.ofFn fun i=>e.pack (q i).1).length cap):=by
        refine .sl (fun k=>if hi:k/e.size<len then(q ⟨k/e.size,hi⟩).2.1.getD (k%e.size) undef else undef) nh xY (by rw [kC];exact lE) ?_ ?_ ?_
        ·intro i x hx;obtain⟨hi,rfl⟩:=k_ i x hx;rw [pack_cells (hq _).1,(hq _).2.1,(hq _).2.2.1]
        ·intro k hk;rw [kC] at hk;obtain⟨hi,hc⟩:=nS k hk;simp only [hi,dite_true];exact hc
        ·intro i x j c hx hc;obtain⟨hi,rfl⟩:=k_ i x hx;obtain⟨g1,g2,g3,g4,g5,g6⟩:=hq ⟨i,hi⟩;rw [pack_cells g1] at hc
         have hj:j<e.size:=by
          have:=(List.getElem?_eq_some_iff.1 hc).1;omega
         have e1:(i*e.size+j)/e.size=i:=by
          rw [Nat.add_comm,Nat.add_mul_div_right _ _ nh,Nat.div_eq_of_lt hj,Nat.zero_add]
         have e2:(i*e.size+j)%e.size=j:=by
          rw [Nat.add_comm,Nat.add_mul_mod_self_right,Nat.mod_eq_of_lt hj]
         have fk:j<(q ⟨i,hi⟩).2.1.length:=by omega
         have nX:=g6 j c _ hc (List.getElem?_eq_getElem fk)
         have Bo:(if hi:(i*e.size+j)/e.size<len then(q ⟨(i*e.size+j)/e.size,hi⟩).2.1.getD ((i*e.size+j)%e.size) undef else undef)=(q ⟨i,hi⟩).2.1[j]:=by
          have:∀i',i'=i→(if ng:i'<len then(q ⟨i',ng⟩).2.1.getD ((i*e.size+j)%e.size) undef else undef)=(q ⟨i,hi⟩).2.1[j]:=by
           intro i' he;subst he;rw [dif_pos hi,e2];simp [List.getD,List.getElem?_eq_getElem fk]
          exact this _ e1
         rw [Bo];refine nX.more ?_;rintro n ⟨p,hp,yq⟩;refine⟨p,List.mem_append_right _ (List.mem_flatMap.2 ⟨_,List.mem_append_left _ (List.mem_of_getElem? g4),hp⟩),yq⟩
       rw [kC] at key;exact key
  ·cases hf
 |.struct fs,t,fuel,cs,x,hf,h=>by
  rw [mE] at hf;split at hf
  ·rename_i gs ht;simp only [Bool.and_eq_true,decide_eq_true_eq] at hf;obtain⟨hf,ed⟩:=hf;obtain⟨xs,n,rfl,rfl,iM,kC,hg⟩:=DataW.trod_struct ht h;rw [ed] at iM;have:=IG fs gs.toList n 0 cs xs hf (by rw [iM];omega) (by simp [kC]) (fun i f hf=>hg i f (by simpa using hf));obtain⟨kN,h1,h2,h3⟩:=this;exact⟨kN,by rw [dt];exact h1,by simpa using h2,by simpa using h3⟩
  ·rename_i m e ht;simp only [Bool.and_eq_true,decide_eq_true_eq] at hf;obtain⟨hf,ed⟩:=hf;obtain⟨xs,n,rfl,rfl,iM,kC,hg⟩:=DataW.trod_array ht h;rw [ed] at iM
   have:=IG fs (EM m e (P.cellsOf e)) n 0 cs xs hf (by rw [iM];omega) (by simp [kC,EM]) (fun i f hf=>by
    unfold EM at hf;rw [List.getElem?_map] at hf;by_cases hi:i<m
    ·rw [List.getElem?_range hi] at hf;simp at hf;subst hf;exact hg i hi
    ·rw [List.getElem?_eq_none (by simp;omega)] at hf;cases hf)
   obtain⟨kN,h1,h2,h3⟩:=this;exact⟨kN,by rw [dt];exact h1,by simpa using h2,by simpa using h3⟩
  ·cases hf
theorem IG:∀(fs:List Sh) (gs:List Field) (n o:Nat) (cs:List Value) (xs:List (DataW H×List MemPlace)),vP P fs gs o=true→cs.length=o+Sh.pk fs→xs.length=gs.length→
  (∀(i:Nat) (f:Field),gs[i]?=some f→DataW.trod enc P w 0 (fun _=>true) held n f.type ((cs.drop f.offset).take (P.cellsOf f.type))=xs[i]?)→
  ∃kN,dE fs kN∧kN.length=(cs.drop o).length∧∀(i:Nat) (a:AV) (v:Value),kN[i]?=some a→(cs.drop o)[i]?=some v→Rel w (pX (xs.flatMap (·.2))) Ph.no a v
 |[],[],n,o,cs,xs,hf,hl,kC,hg=>by
  refine⟨[],by rw [dE],by simp [hl,Sh.pk],by intro i a v h;simp at h⟩
 |f::fs,g::gs,n,o,cs,xs,hf,hl,kC,hg=>by
  rw [vP] at hf;simp only [Bool.and_eq_true,decide_eq_true_eq] at hf;obtain⟨ho,Bi,ed,hf2⟩:=hf;rw [Sh.pk] at hl
  match xs,kC with
  |x0::xs,kC=>
   have h0:=hg 0 g rfl;rw [ho,ed] at h0;obtain⟨a0,c1,c2,c3⟩:=IF f g.type n _ x0 Bi (by simpa using h0);obtain⟨a1,d1,d2,d3⟩:=IG fs gs n (o+f.size) cs xs hf2 (by omega) (by simpa using kC) (fun i f' hf'=>by simpa using hg (i+1) f' (by simpa using hf'));have tP:a0.length=f.size:=dt.length f a0 c1;refine⟨a0++a1,by rw [dE];exact⟨a0,a1,rfl,c1,d1⟩,?_,?_⟩
   ·rw [List.length_append,d2,tP];simp only [List.length_drop];omega
   ·intro i a v h1 h2;by_cases hi:i<a0.length
    ·rw [List.getElem?_append_left hi] at h1;have vQ:((cs.drop o).take f.size)[i]?=some v:=by rw [List.getElem?_take,if_pos (by omega)];exact h2
     refine(c3 i a v h1 vQ).more ?_;rintro m ⟨p,hp,hm⟩;exact⟨p,by simp [hp],hm⟩
    ·rw [List.getElem?_append_right (by omega)] at h1
     have vQ:(cs.drop (o+f.size))[i -a0.length]?=some v:=by
      rw [List.getElem?_drop] at h2⊢;rw [←h2];congr 1;omega
     refine(d3 _ a v h1 vQ).more ?_;rintro m ⟨p,hp,hm⟩;refine⟨p,?_,hm⟩;rw [List.flatMap_cons,List.mem_append];exact Or.inr hp
 |[],_::_,_,_,_,_,hf,_,_,_=>by simp [vP] at hf
 |_::_,[],_,_,_,_,hf,_,_,_=>by simp [vP] at hf
end
end
section
variable{H:Type} {enc:TypeId×Value→H} {P:Program} {w:World}
theorem acy {s:Sh} {t:TypeId} {v:Value} {d:DataW H} {ps:List MemPlace} {base:Nat} (hf:mE P s t=true) (fm:Value.okWide P w .any base t v)
  (h:DataW.Trod enc P w 0 (fun _=>true) true t v d ps):∃a,Of s a∧Rel w (pX ps) Ph.no a v:=by
 obtain⟨n,hn⟩:=h;obtain⟨kN,h1,h2,h3⟩:=IF s t n _ _ hf hn
 have one:v.cells=#[v]→kN.length=1→∃a,kN=[a]∧Rel w (pX ps) Ph.no a v:=by
  intro hc hl
  match kN,hl with
  |[a],_=>exact⟨a,rfl,h3 0 a v rfl (by simp [hc])⟩
 cases s with
 |struct fs=>
  rw [mE] at hf;split at hf
  ·rename_i gs ht;simp only [Value.okWide,ht] at fm;obtain⟨cs,rfl,_⟩:=fm;refine⟨.agg kN,⟨kN,rfl,h1⟩,.agg (by simpa [Value.cells] using h2) (fun i c v hc hv=>h3 i c v hc (by simpa [Value.cells] using hv))⟩
  ·rename_i m e ht;simp only [Value.okWide,ht] at fm;obtain⟨cs,rfl,_⟩:=fm;refine⟨.agg kN,⟨kN,rfl,h1⟩,.agg (by simpa [Value.cells] using h2) (fun i c v hc hv=>h3 i c v hc (by simpa [Value.cells] using hv))⟩
  ·cases hf
 |int k=>
  rw [mE] at hf;split at hf
  ·rename_i k' ht;have hc:v.cells=#[v]:=by cases v<;>simp_all [Value.okWide,Cell.okWide,Cell.ok,Value.cells]
   obtain⟨a,rfl,hr⟩:=one hc (by simpa [Sh.size] using dt.length _ _ h1);exact⟨a,⟨[a],rfl,h1⟩,hr⟩
  ·cases hf
 |bool=>
  rw [mE] at hf;split at hf
  ·rename_i ht;have hc:v.cells=#[v]:=by cases v<;>simp_all [Value.okWide,Cell.okWide,Cell.ok,Value.cells]
   obtain⟨a,rfl,hr⟩:=one hc (by simpa [Sh.size] using dt.length _ _ h1);exact⟨a,⟨[a],rfl,h1⟩,hr⟩
  ·cases hf
 |str=>
  rw [mE] at hf;split at hf
  ·rename_i ht;have hc:v.cells=#[v]:=by cases v<;>simp_all [Value.okWide,Cell.okWide,Cell.ok,Value.cells]
   obtain⟨a,rfl,hr⟩:=one hc (by simpa [Sh.size] using dt.length _ _ h1);exact⟨a,⟨[a],rfl,h1⟩,hr⟩
  ·cases hf
 |slice e=>
  rw [mE] at hf;split at hf
  ·rename_i u ht;have hc:v.cells=#[v]:=by cases v<;>simp_all [Value.okWide,Cell.okWide,Cell.ok,Value.cells]
   obtain⟨a,rfl,hr⟩:=one hc (by simpa [Sh.size] using dt.length _ _ h1);exact⟨a,⟨[a],rfl,h1⟩,hr⟩
  ·cases hf
def Bp:List Sh→List AV→Prop
 |[],[]=>True
 |s::ss,a::la=>Of s a∧Bp ss la
 |_,_=>False
def fitAll (P:Program):List Sh→List TypeId→Bool
 |[],[]=>true
 |s::ss,t::ts=>mE P s t&&fitAll P ss ts
 |_,_=>false
theorem Pv {base:Nat}:∀(ss:List Sh) (ts:List TypeId) (vs:List Value) (ds:List (DataW H)) (ps:List MemPlace),fitAll P ss ts=true→
  (∀(j:Nat) t v,ts[j]?=some t→vs[j]?=some v→Value.okWide P w .any base t v)→DataW.TrodAll enc P w 0 (fun _=>true) true ts vs ds ps→
  ∃la,Bp ss la∧la.length=vs.length∧ds.length=ts.length∧∀(i:Nat) (a:AV) (v:Value),la[i]?=some a→vs[i]?=some v→Rel w (pX ps) Ph.no a v
 |[],[],vs,ds,ps,_,_,h=>by
  obtain⟨rfl,rfl,rfl⟩:=trodAll_nil h;exact⟨[],trivial,rfl,rfl,by intro i a v h;simp at h⟩
 |s::ss,t::ts,vs,ds,ps,hf,fm,h=>by
  obtain⟨v,vs,d,ds,p,q,rfl,rfl,rfl,h0,hr⟩:=trodAll_cons h;rw [fitAll,Bool.and_eq_true] at hf;obtain⟨a,ha,hra⟩:=acy hf.1 (fm 0 t v rfl rfl) h0;obtain⟨la,g1,g2,g3,g4⟩:=Pv ss ts vs ds q hf.2 (fun j t v h1 h2=>fm (j+1) t v (by simpa using h1) (by simpa using h2)) hr;refine⟨a::la,⟨ha,g1⟩,by simp [g2],by simp [g3],?_⟩;intro i c u h1 h2;cases i with
  |zero=>
   simp at h1 h2;subst h1;subst h2;exact hra.more fun n ⟨p',hp,hn⟩=>⟨p',List.mem_append_left _ hp,hn⟩
  |succ i=>
   exact(g4 i c u (by simpa using h1) (by simpa using h2)).more fun n ⟨p',hp,hn⟩=>⟨p',List.mem_append_right _ hp,hn⟩
 |[],_::_,_,_,_,hf,_,_=>by simp [fitAll] at hf
 |_::_,[],_,_,_,hf,_,_=>by simp [fitAll] at hf
theorem Pw (hl:laidOutB P=true) {W W':World} {sp:Nat→Bool}:∀(ts:List TypeId) (vs:List Value) (ds:List (DataW H)) (ps:List MemPlace),ts.all (fun t=>P.readableRec t&&decide (t<P.types.size))=true→
  DataW.TrodAll enc P W 0 (fun _=>true) true ts vs ds ps→(∀p∈ps,W.sameAt W' p)→(∀p∈ps,sp p.block=true)→DataW.TrodAll enc P W' 0 sp true ts vs ds ps
 |[],vs,ds,ps,_,h,_,_=>by
  obtain⟨rfl,rfl,rfl⟩:=trodAll_nil h;exact trodAll_mk0
 |t::ts,vs,ds,ps,hr,h,hs,rU=>by
  obtain⟨v,vs,d,ds,p,q,rfl,rfl,rfl,h0,h1⟩:=trodAll_cons h;rw [List.all_cons,Bool.and_eq_true,Bool.and_eq_true] at hr
  exact trodAll_cons_mk (WideElems.Trod_stays hl hr.1.1 (of_decide_eq_true hr.1.2) h0 (fun p hp=>hs p (List.mem_append_left _ hp)) (fun p hp=>rU p (List.mem_append_left _ hp)))
   (Pw hl ts vs ds q hr.2 h1 (fun p hp=>hs p (List.mem_append_right _ hp)) (fun p hp=>rU p (List.mem_append_right _ hp)))
theorem acA {f:Func} {s:ChangeSpec} {W W':World} {args:Array Value} {v:Value} {ds gs:List (DataW H)} {before pa pv:List MemPlace}
  (hW:DataW.Whole enc P f.params.toList s.vars false W args.toList ds gs before)
  (sg:∀(b:Nat) (sp:Nat→Bool) (hd:Bool),DataW.TrodAll enc P W' b sp hd f.resultTypes.toList (v.resultList f.resultTypes.size) (s.fn H (ds++gs)).results [])
  (fW:∀sp:Nat→Bool,(∀p∈before,sp p.block=true)→DataW.TrodAll enc P W' 0 sp true f.params.toList args.toList (s.fn H (ds++gs)).args pa)
  (EN:∀sp:Nat→Bool,(∀p∈before,sp p.block=true)→DataW.TrodVars enc P W' sp s.vars (s.fn H (ds++gs)).vars pv)
  (IH:before=pa++pv) (hb:Below W.heap.size W W')
  (fm:∀(j:Nat) (t:TypeId) (r:Value),f.resultTypes[j]?=some t→(v.resultList f.resultTypes.size)[j]?=some r→Value.okWide P W' .any 0 t r):
  s.post enc P f false true false false W args v W':=by
 have cn:∀p∈before,p.block<W.heap.size:=fun p hp=>hW.lt p hp
 have hold:∀p∈before,(fun b=>decide (b<W.heap.size)) p.block=true:=fun p hp=>by simpa using cn p hp
 refine⟨ds,gs,before,[],pa,pv,hW,sg _ _ _,fW _ hold,EN _ hold,World.keptBut_mono (fun p hp=>⟨hp,?_⟩) (hb.frame (·∈before)),fun h=>by cases h⟩;rw [IH,List.mem_append] at hp;exact Or.inr hp
end
end Go.Ab
namespace Go.Ab
open Go.RowKit
mutual
def lH:Sh→List Value→Prop
 |.int k,cs=>∃n,cs=[.int k n]
 |.bool,cs=>∃b,cs=[.bool b]
 |.str,cs=>∃s,cs=[.string s]
 |.slice _,_=>False
 |.struct fs,cs=>mF fs cs
def mF:List Sh→List Value→Prop
 |[],cs=>cs=[]
 |f::fs,cs=>∃a b,cs=a++b∧lH f a∧mF fs b
end
def Bq:Value→Value→Bool
 |.int _ a,.int _ b=>a==b
 |.bool a,.bool b=>a==b
 |.string a,.string b=>a.toList==b.toList
 |_,_=>false
def lI:List Value→List Value→Bool
 |[],[]=>true
 |a::l,b::m=>Bq a b&&lI l m
 |_,_=>false
theorem Px:∀{a b c d:List Value},a.length=b.length→lI (a++c) (b++d)=(lI a b&&lI c d)
 |[],[],_,_,_=>by simp [lI]
 |x::a,y::b,c,d,h=>by simp [lI,Px (a:=a) (b:=b) (c:=c) (d:=d) (by simpa using h),Bool.and_assoc]
 |[],_::_,_,_,h=>by simp at h
 |_::_,[],_,_,h=>by simp at h
mutual
def mG (P:Program):Sh→TypeId→Bool
 |.struct fs,t=>match P.underlying t with
  |some (.struct gs)=>!P.stoodInHeld t&&(yr P fs gs.toList 0&&decide (P.cellsOf t=Sh.pk fs))
  |_=>false
 |.slice _,_=>false
 |.int k,t=>match P.underlying t with
  |some (.int k')=>decide (k'=k)
  |_=>false
 |.bool,t=>match P.underlying t with
  |some .bool=>true
  |_=>false
 |.str,t=>match P.underlying t with
  |some .string=>true
  |_=>false
def yr (P:Program):List Sh→List Field→Nat→Bool
 |[],[],_=>true
 |f::fs,g::gs,o=>decide (g.name≠ "_")&&(decide (g.offset=o)&&(mG P f g.type&&(decide (P.cellsOf g.type=f.size)&&yr P fs gs (o+f.size))))
 |_,_,_=>false
end
mutual
def Sh.depth:Sh→Nat
 |.struct fs=>Sh.EO fs+1
 |_=>1
def Sh.EO:List Sh→Nat
 |[]=>0
 |f::fs=>max f.depth (Sh.EO fs)
end
mutual
theorem lH.length:∀(s:Sh) (cs:List Value),lH s cs→cs.length=s.size
 |.int _,_,h=>by obtain⟨n,rfl⟩:=h;rfl
 |.bool,_,h=>by obtain⟨b,rfl⟩:=h;rfl
 |.str,_,h=>by obtain⟨b,rfl⟩:=h;rfl
 |.slice _,_,h=>by cases h
 |.struct fs,cs,h=>by rw [lH] at h;rw [Sh.size];exact mF.length fs cs h
theorem mF.length:∀(fs:List Sh) (cs:List Value),mF fs cs→cs.length=Sh.pk fs
 |[],cs,h=>by rw [mF] at h;subst h;rfl
 |f::fs,cs,h=>by
  rw [mF] at h;obtain⟨a,b,rfl,h1,h2⟩:=h;rw [List.length_append,lH.length f a h1,mF.length fs b h2,Sh.pk]
end
def Sh.od:Sh→List Value→Value
 |.struct _,cs=>.agg cs.toArray
 |_,c::_=>c
 |_,[]=>.agg #[]
section
variable{P:Program} {w:World}
theorem Py {f:Sh} {t o:Nat} {xs:Array Value} {a b:List Value} (he:mG P f t=true) (hs:P.cellsOf t=f.size) (hd:xs.toList.drop o=a++b) (hT:lH f a):(part t xs o).run P w=.ok (f.od a) w:=by
 have hl:=lH.length f a hT
 have h0:∀c,a=[c]→xs[o]?=some c:=by
  intro c hc;have:(xs.toList.drop o)[0]?=some c:=by rw [hd,hc];rfl
  simpa using this
 cases f with
 |slice _=>cases hT
 |int k=>
  rw [mG] at he;split at he
  ·rename_i ht;obtain⟨n,rfl⟩:=hT;simp [part,isAgg,run_underlying ht,h0 _ rfl,Sh.od]
  ·cases he
 |bool=>
  rw [mG] at he;split at he
  ·rename_i ht;obtain⟨n,rfl⟩:=hT;simp [part,isAgg,run_underlying ht,h0 _ rfl,Sh.od]
  ·cases he
 |str=>
  rw [mG] at he;split at he
  ·rename_i ht;obtain⟨n,rfl⟩:=hT;simp [part,isAgg,run_underlying ht,h0 _ rfl,Sh.od]
  ·cases he
 |struct fs=>
  rw [mG] at he;split at he
  ·rename_i gs ht;obtain⟨i,hi⟩:=info_of_underlying ht
   have hx:xs.extract o (o+P.cellsOf t)=a.toArray:=by
    apply Array.toList_inj.1;rw [Array.toList_extract];simp only [List.extract,Nat.add_sub_cancel_left];rw [hd,hs,←hl];simp
   have hz:(sizeOf t).run P w=.ok (P.cellsOf t) w:=Go.run_sizeOf w hi;simp [part,isAgg,run_underlying ht,hz,hx,Sh.od]
  ·cases he
mutual
theorem II:∀(s:Sh) (t d:Nat) (c1 c2:List Value),mG P s t=true→s.depth≤d→lH s c1→lH s c2→(Op.equalIn d t (s.od c1) (s.od c2)).run P w=.ok (lI c1 c2) w
 |.int k,t,d+1,c1,c2,he,_,h1,h2=>by
  rw [mG] at he;split at he
  ·rename_i ht;obtain⟨a,rfl⟩:=h1;obtain⟨b,rfl⟩:=h2;simp [Sh.od,lI,Bq,run_equalIn_int w d t k _ a b ht]
  ·cases he
 |.bool,t,d+1,c1,c2,he,_,h1,h2=>by
  rw [mG] at he;split at he
  ·rename_i ht;obtain⟨a,rfl⟩:=h1;obtain⟨b,rfl⟩:=h2;simp [Sh.od,lI,Bq,run_equalIn_bool w d t a b ht]
  ·cases he
 |.str,t,d+1,c1,c2,he,_,h1,h2=>by
  rw [mG] at he;split at he
  ·rename_i ht;obtain⟨a,rfl⟩:=h1;obtain⟨b,rfl⟩:=h2;simp [Sh.od,lI,Bq,run_equalIn_string w d t a b ht]
  ·cases he
 |.slice _,_,_,_,_,_,_,h1,_=>by cases h1
 |.struct fs,t,d+1,c1,c2,he,hd,h1,h2=>by
  rw [mG] at he;split at he
  ·rename_i gs ht;simp only [Bool.and_eq_true,Bool.not_eq_true',decide_eq_true_eq] at he;obtain⟨hp,he,hs⟩:=he;have mC:P.fieldsOf t=gs:=by simp [Program.fieldsOf,ht]
   rw [lH] at h1 h2;have:=Pz fs gs.toList 0 d c1.toArray c2.toArray he (by rw [Sh.depth] at hd;omega) (by simpa using h1) (by simpa using h2);simp only [Sh.od];rw [run_equalIn_struct w d t _ _ (by rw [mC];exact ht) hp,mC,this];simp
  ·cases he
 |.int _,_,0,_,_,_,hd,_,_=>by simp [Sh.depth] at hd
 |.bool,_,0,_,_,_,hd,_,_=>by simp [Sh.depth] at hd
 |.str,_,0,_,_,_,hd,_,_=>by simp [Sh.depth] at hd
 |.struct _,_,0,_,_,_,hd,_,_=>by simp [Sh.depth] at hd
theorem Pz:∀(fs:List Sh) (gs:List Field) (o d:Nat) (xs ys:Array Value),yr P fs gs o=true→Sh.EO fs≤d→mF fs (xs.toList.drop o)→mF fs (ys.toList.drop o)→
  (Op.eqFields d xs ys gs).run P w=.ok (lI (xs.toList.drop o) (ys.toList.drop o)) w
 |[],[],o,d,xs,ys,_,_,h1,h2=>by
  rw [mF] at h1 h2;rw [h1,h2];simp [Op.eqFields,lI]
 |f::fs,g::gs,o,d,xs,ys,he,hd,h1,h2=>by
  rw [yr] at he;simp only [Bool.and_eq_true,decide_eq_true_eq] at he;obtain⟨hn,ho,he,hs,her⟩:=he;rw [mF] at h1 h2;obtain⟨a1,b1,e1,t1,r1⟩:=h1;obtain⟨a2,b2,e2,t2,r2⟩:=h2;rw [Sh.EO] at hd;have p1:=Py (w:=w) he hs e1 t1;have p2:=Py (w:=w) he hs e2 t2;have l1:=lH.length f a1 t1;have l2:=lH.length f a2 t2;have d1:xs.toList.drop (o+f.size)=b1:=by rw [←List.drop_drop,e1,←l1];simp
  have d2:ys.toList.drop (o+f.size)=b2:=by rw [←List.drop_drop,e2,←l2];simp
  have q:=II f g.type d a1 a2 he (by omega) t1 t2;have rest:=Pz fs gs (o+f.size) d xs ys her (by omega) (by rw [d1];exact r1) (by rw [d2];exact r2);rw [d1,d2] at rest;simp only [Op.eqFields,hn,ne_eq,not_false_eq_true,if_true,Sem.run_bind,ho,p1,p2,q,Result.andThen_ok];rw [e1,e2,Px (by rw [l1,l2])];cases hq:lI a1 a2
  ·simp
  ·simpa using rest
 |[],_::_,_,_,_,_,he,_,_,_=>by simp [yr] at he
 |_::_,[],_,_,_,_,he,_,_,_=>by simp [yr] at he
end
mutual
def kE:Sh→List AV→Option (List AV)
 |.int k,.sc (.int k' _)::r=>match decide (k'=k) with
  |true=>some r
  |false=>none
 |.bool,.sc (.bool _)::r=>some r
 |.str,.sc (.string _)::r=>some r
 |.struct fs,l=>Br fs l
 |_,_=>none
def Br:List Sh→List AV→Option (List AV)
 |[],l=>some l
 |f::fs,l=>match kE f l with
  |some r=>Br fs r
  |none=>none
end
mutual
theorem Bs:∀(s:Sh) (l r:List AV),kE s l=some r→∃c,l=c.map .sc++r∧lH s c
 |.int k,l,r,h=>by
  cases l with
  |nil=>simp [kE] at h
  |cons a l=>
   cases a<;>try(simp [kE] at h;done)
   rename_i v;cases v<;>try(simp [kE] at h;done)
   rename_i k' n;rw [kE] at h;split at h
   ·rename_i hd;obtain rfl:=of_decide_eq_true hd;cases h;exact⟨[.int k' n],rfl,by rw [lH];exact⟨n,rfl⟩⟩
   ·cases h
 |.bool,l,r,h=>by
  cases l with
  |nil=>simp [kE] at h
  |cons a l=>
   cases a<;>try(simp [kE] at h;done)
   rename_i v;cases v<;>try(simp [kE] at h;done)
   rename_i b;rw [kE] at h;cases h;exact⟨[.bool b],rfl,by rw [lH];exact⟨b,rfl⟩⟩
 |.str,l,r,h=>by
  cases l with
  |nil=>simp [kE] at h
  |cons a l=>
   cases a<;>try(simp [kE] at h;done)
   rename_i v;cases v<;>try(simp [kE] at h;done)
   rename_i b;rw [kE] at h;cases h;exact⟨[.string b],rfl,by rw [lH];exact⟨b,rfl⟩⟩
 |.slice e,l,r,h=>by simp [kE] at h
 |.struct fs,l,r,h=>by
  rw [kE] at h;obtain⟨c,h1,h2⟩:=PA fs l r h;exact⟨c,h1,by rw [lH];exact h2⟩
theorem PA:∀(fs:List Sh) (l r:List AV),Br fs l=some r→∃c,l=c.map .sc++r∧mF fs c
 |[],l,r,h=>by
  rw [Br] at h;cases h;exact⟨[],rfl,by rw [mF]⟩
 |f::fs,l,r,h=>by
  rw [Br] at h;split at h
  ·rename_i q hq;obtain⟨c,rfl,h1⟩:=Bs f l q hq;obtain⟨c',rfl,h2⟩:=PA fs q r h;exact⟨c++c',by simp,by rw [mF];exact⟨c,c',rfl,h1,h2⟩⟩
  ·cases h
end
def yt:List AV→List AV→Bool
 |[],[]=>true
 |.sc a::l,.sc b::m=>Bq a b&&yt l m
 |_,_=>false
theorem IJ:∀(l m:List Value),yt (l.map .sc) (m.map .sc)=lI l m
 |[],[]=>rfl
 |a::l,b::m=>by simp [yt,lI,IJ l m]
 |[],_::_=>rfl
 |_::_,[]=>rfl
theorem Rel.yu {R:Nat→Prop} {φ:Ph} {c:List Value} {v:Value} (h:Rel w R φ (.agg (c.map .sc)) v):v=.agg c.toArray:=by
 cases h with
 |agg hl hr=>
  rename_i vs;congr 1;apply Array.ext_getElem?;intro i;by_cases hi:i<c.length
  ·have hv:i<vs.size:=by rw [←hl];simpa using hi
   have:=hr i (.sc c[i]) vs[i] (by simp [hi]) (by simp [hv]);have:=this.gN;simp [hi,hv,this]
  ·have hv:¬i<vs.size:=by rw [←hl];simpa using hi
   rw [Array.getElem?_eq_none (by omega),Array.getElem?_eq_none (by simp;omega)]
variable{s:St} {o:Oper}
theorem acC {t ty:Nat} {x y:Operand} {cs ds:List AV} (sh:Sh) (hk:(match sh with|.struct _=>true|_=>false)=true) (he:mG P sh t=true) (hm:P.eqGuardType P.depth t=false) (IK:sh.depth≤10000) (ho:o.op=.binOp .eql t x y ty)
  (hx:s.ev x=.agg cs) (hy:s.ev y=.agg ds) (h1:kE sh cs=some []) (h2:kE sh ds=some []):di P o s ⟨.sc (.bool (yt cs ds)),[],[],[]⟩:=by
 intro s' _ ca _ _;refine gj fun c φ R a w hs=>?_
 obtain⟨c1,rfl,t1⟩:=Bs sh cs [] h1;obtain⟨c2,rfl,t2⟩:=Bs sh ds [] h2;simp only [List.append_nil] at*
 have g1:=hs.ev x;rw [ca x (by simp [ho,Op.operands]),hx] at g1;have g1:=g1.yu;have g2:=hs.ev y;rw [ca y (by simp [ho,Op.operands]),hy] at g2;have g2:=g2.yu;cases sh with
 |struct fs=>
  have gn:=II (w:=w) (.struct fs) t 10000 c1 c2 he IK t1 t2;simp only [Sh.od] at gn;refine⟨.bool (lI c1 c2),?_,?_⟩
  ·simp [execOp,ho,g1,g2,run_eqGuard_agg w .eql t x y _ _ hm,run_eql_struct w t,gn]
  ·rw [IJ];exact .sc rfl
 |_=>cases hk
theorem EP {t ty:Nat} {x y:Operand} {cs ds:List AV} (sh:Sh) (hk:(match sh with|.struct _=>true|_=>false)=true) (he:mG P sh t=true) (hm:P.eqGuardType P.depth t=false) (IK:sh.depth≤10000) (ho:o.op=.binOp .neq t x y ty)
  (hx:s.ev x=.agg cs) (hy:s.ev y=.agg ds) (h1:kE sh cs=some []) (h2:kE sh ds=some []):di P o s ⟨.sc (.bool (!yt cs ds)),[],[],[]⟩:=by
 intro s' _ ca _ _;refine gj fun c φ R a w hs=>?_
 obtain⟨c1,rfl,t1⟩:=Bs sh cs [] h1;obtain⟨c2,rfl,t2⟩:=Bs sh ds [] h2;simp only [List.append_nil] at*
 have g1:=hs.ev x;rw [ca x (by simp [ho,Op.operands]),hx] at g1;have g1:=g1.yu;have g2:=hs.ev y;rw [ca y (by simp [ho,Op.operands]),hy] at g2;have g2:=g2.yu;cases sh with
 |struct fs=>
  have gn:=II (w:=w) (.struct fs) t 10000 c1 c2 he IK t1 t2;simp only [Sh.od] at gn;refine⟨.bool (!lI c1 c2),?_,?_⟩
  ·simp [execOp,ho,g1,g2,run_eqGuard_agg w .neq t x y _ _ hm,run_neq_struct w t,gn]
  ·rw [IJ];exact .sc rfl
 |_=>cases hk
end
variable{lim:Nat}
def IL (L:Mem) (ρ:cZ) (xs ys:List AV):Prop:=(xs=ys∧∀y∈ys,fp y=true)∨(gP L ρ xs ys∧vB xs ys)
def nk (L:Mem) (ρ:cZ) (m:Mem):Mem→Prop
 |[]=>True
 |(_,none)::_=>False
 |(b',some k)::l=>(match lk b' ρ with
   |some (some b)=>∃k0,lk b m=some (some k0)∧k0.ty=k.ty∧k0.cy=k.cy∧IL L ρ k0.xs k.xs
   |some none=>k.xs=[]
   |none=>False)∧nk L ρ m l
def qW (L:Mem) (ρ:cZ) (s:St):List (Nat×AV)→Prop
 |[]=>True
 |(t,av)::l=>bX L ρ (s.get t) av∧qW L ρ s l
theorem IM {L:Mem} {ρ:cZ} {m:Mem}:∀{M:Mem},nk L ρ m M→∀b' k,(b',some k)∈M→(match lk b' ρ with
   |some (some b)=>∃k0,lk b m=some (some k0)∧k0.ty=k.ty∧k0.cy=k.cy∧IL L ρ k0.xs k.xs
   |some none=>k.xs=[]
   |none=>False)
 |[],_,_,_,h=>by cases h
 |(j,none)::l,hw,b',k,h=>by simp [nk] at hw
 |(j,some q)::l,hw,b',k,h=>by
  simp only [nk] at hw;rcases List.mem_cons.1 h with h|h
  ·cases h;exact hw.1
  ·exact IM hw.2 b' k h
theorem PB {L:Mem} {ρ:cZ} {s:St}:∀{l:List (Nat×AV)},qW L ρ s l→∀t av,(t,av)∈l→bX L ρ (s.get t) av
 |[],_,t,av,h=>by cases h
 |(j,q)::l,hw,t,av,h=>by
  simp only [qW] at hw;rcases List.mem_cons.1 h with h|h
  ·cases h;exact hw.1
  ·exact PB hw.2 t av h
theorem acD {L:Mem} {ρ:cZ} {x y:AV} (h:bX L ρ x y) (hl:x.cells.length=y.cells.length):∀(j:Nat) (c d:AV),x.cells[j]?=some c→y.cells[j]?=some d→bX L ρ c d:=by
 intro j c d hc hd;by_cases hy:y=.bot
 ·subst hy;cases j with
  |zero=>simp [AV.cells] at hd;subst hd;cases c<;>simp [bX]
  |succ j=>simp [AV.cells] at hd
 ·have one:∀{x y:AV},x.cells=[x]→y.cells=[y]→bX L ρ x y→∀(j:Nat) (c d:AV),x.cells[j]?=some c→y.cells[j]?=some d→bX L ρ c d:=by
   intro x y h1 h2 h j c d hc hd;rw [h1] at hc;rw [h2] at hd;cases j with
   |zero=>simp at hc hd;subst hc;subst hd;exact h
   |succ j=>simp at hc
  cases x<;>cases y<;>first|exact absurd rfl hy|(simp [bX] at h;done)|exact one rfl rfl h j c d hc hd|skip
  rename_i cs ds;simp only [bX] at h;exact(l0 h).2 j c d hc hd
def IN (R:Nat→Prop) (φ:Ph) (L:Mem) (n:Nat):Prop:=R n∨dj φ L n
theorem acE {φ:Ph} {R:Nat→Prop} {mm:Mem} {w:World} (hs:gX w R φ mm) {L:Mem} {ρ:cZ} {M:Mem} (hL:mA ρ mm L) (hi:iV ρ=true) (A_:(ρ.all fun p=>(lk p.1 M).isSome)=true) (hM:nk L ρ mm M):
  gX w (IN R φ L) (φ.via ρ) M∧(∀b x,φ.via ρ b=some x→∃y,lk b M=some y)∧(∀b k h,lk b M=some (some k)→φ.via ρ b=some (some h)→∃b0 k0,lk b ρ=some (some b0)∧lk b0 mm=some (some k0)∧φ b0=some (some h)):=by
 have H_:=Eo hi
 have hm:∀b k h,lk b L=some (some k)→φ b=some (some h)→lk b mm=some (some k)∧IN R φ L h.cY:=by
  intro b k h hb hp;obtain⟨k',e,h1,_⟩:=yd hL b _ (gI hb);cases e;exact⟨h1,.inr ⟨b,k,h,hb,hp,rfl⟩⟩
 have src:∀b k h,lk b M=some (some k)→φ.via ρ b=some (some h)→∃b0 k0,lk b ρ=some (some b0)∧lk b0 mm=some (some k0)∧φ b0=some (some h)∧k0.ty=k.ty∧k0.cy=k.cy∧IL L ρ k0.xs k.xs:=by
  intro b k h hb hv;have:=IM hM b k (gI hb);unfold Ph.via at hv;cases hq:lk b ρ with
  |none=>simp [hq] at hv
  |some o=>
   cases o with
   |none=>simp [hq] at hv
   |some b0=>
    simp only [hq] at hv this;obtain⟨k0,h0,h1,h2,h3⟩:=this;exact⟨b0,k0,rfl,h0,hv,h1,h2,h3⟩
 refine⟨⟨?_,?_,?_,hs.gl.mono (fun _ _=>rfl) (fun _ h=>.inl h)⟩,?_,?_⟩
 ·intro b k hb;have Bt:=IM hM b k (gI hb);cases hq:lk b ρ with
  |none=>simp [hq] at Bt
  |some o=>
   cases o with
   |none=>
    simp only [hq] at Bt;exact⟨none,by simp [Ph.via,hq],Bt⟩
   |some b0=>
    simp only [hq] at Bt;obtain⟨k0,h0,h1,h2,h3⟩:=Bt;obtain⟨oh,ho,hr⟩:=hs.rel b0 k0 h0;refine⟨oh,by simp [Ph.via,hq,ho],?_⟩;cases oh with
    |none=>
     simp only [iT] at hr⊢;rw [hr] at h3;rcases h3 with⟨h3,_⟩|⟨h3,_⟩
     ·exact h3.symm
     ·have:=(l0 h3).1;exact List.eq_nil_of_length_eq_zero (by simpa using this.symm)
    |some x=>
     obtain⟨r1,r2,r3,r4,C,r5,r6,r7⟩:=hr;rcases h3 with⟨h3,h4⟩|⟨h3,h4⟩
     ·refine⟨by rw [←h2,r1],r2,by rw [←h3];exact r3,r4,C,by rw [←h1];exact r5,r6,fun i y hy=>?_⟩;have H':=hy;rw [←h3] at hy;obtain⟨q1,q2⟩:=r7 i y hy;refine⟨q1,fun j c' hj=>?_⟩;obtain⟨u,hu,il⟩:=q2 j c' hj;refine⟨u,hu,(il.fp ?_).more fun _ h=>.inl h⟩;have hn:=h4 y (List.mem_of_getElem? H');cases y with
      |agg cs=>exact vA (cs:=cs) (by simpa [fp] using hn) j c' hj
      |_=>
       simp only [AV.cells] at hj;cases j with
       |zero=>simp at hj;subst hj;exact hn
       |succ j=>simp at hj
     ·obtain⟨g1,g2⟩:=l0 h3;refine⟨by rw [←h2,r1],r2,by rw [←g1];exact r3,r4,C,by rw [←h1];exact r5,r6,fun i y hy=>?_⟩;have cn:=(List.getElem?_eq_some_iff.1 hy).1;have hx:k0.xs[i]?=some (k0.xs[i]'(by omega)):=List.getElem?_eq_getElem (by omega)
      obtain⟨q1,q2⟩:=r7 i _ hx;have hlen:=H9 h4 i _ y hx hy;refine⟨by rw [←hlen];exact q1,fun j d hj=>?_⟩;have fk:j<(k0.xs[i]'(by omega)).cells.length:=by rw [hlen];exact(List.getElem?_eq_some_iff.1 hj).1
      obtain⟨u,hu,il⟩:=q2 j _ (List.getElem?_eq_getElem fk);refine⟨u,hu,?_⟩;exact mz hs (m:=L) (fun _ h=>.inl h) hm il (acD (g2 i _ y hx hy) hlen j _ d (List.getElem?_eq_getElem fk) hj)
 ·intro b b' k k' h h' hb ig hv A' heq;obtain⟨q,kq,e1,e2,e3,_⟩:=src b k h hb hv;obtain⟨q',Ia,f1,f2,f3,_⟩:=src b' k' h' ig A';have:=hs.inj q q' kq Ia h h' e2 f2 e3 f3 heq;subst this;exact H_ b b' q e1 f1
 ·intro b k h hb hv;obtain⟨q,kq,e1,e2,e3,_⟩:=src b k h hb hv;rintro(hR|⟨b1,k1,h1,g1,g2,g3⟩)
  ·exact hs.ga q kq h e2 e3 hR
  ·obtain⟨ER,e,f1,f2⟩:=yd hL b1 _ (gI g1);have:=hs.inj b1 q ER kq h1 h f1 e2 g2 e3 g3;subst this;exact f2 (Er e1)
 ·intro b x hx;unfold Ph.via at hx;cases hq:lk b ρ with
  |none=>simp [hq] at hx
  |some o=>
   have:=List.all_eq_true.1 A_ _ (gI hq);exact Option.isSome_iff_exists.1 this
 ·intro b k h hb hv;obtain⟨q,kq,e1,e2,e3,_⟩:=src b k h hb hv;exact⟨q,kq,e1,e2,e3⟩
def Bu (s h:St):Prop:=∃L ρ,s.n=h.n∧pe ρ h.m=true∧mA ρ s.m L∧qW L ρ s h.t∧nk L ρ s.m h.m
theorem dJ.freeze {c:Ctx} {s h:St} {a:Act} {w:World} (hs:dJ c s a w) (hw:Bu s h):dJ c h a w:=by
 obtain⟨φ,R,hs⟩:=hs;obtain⟨L,ρ,h1,h2,hL,h3,h4⟩:=hw;obtain⟨i1,i2⟩:=vC h2;obtain⟨m1,m2,m3⟩:=acE hs.m hL i1 i2 h4
 have Bd:∀b k h,lk b L=some (some k)→φ b=some (some h)→lk b s.m=some (some k):=by
  intro b k h hb hp;obtain⟨k',e,h1,_⟩:=yd hL b _ (gI hb);cases e;exact h1
 refine⟨φ.via ρ,IN R φ L,hs.n.trans h1,fun t av ht=>?_,m1,m2,fun b k x hb hx=>?_,fun n h=>.inl (hs.R0 n h),?_,?_,hs.ext,hs.d,Ib h2 hs.gi⟩
 ·exact mz hs.m (m:=L) (fun _ h=>.inl h) (fun b k h hb hp=>⟨Bd b k h hb hp,.inr ⟨b,k,h,hb,hp,rfl⟩⟩) (hs.get t) (PB h3 t av (gI ht))
 ·obtain⟨b0,k0,_,e1,e2⟩:=m3 b k x hb hx;exact hs.fresh b0 k0 x e1 e2
 ·rintro n (h|⟨b,k,x,g1,g2,rfl⟩)
  ·exact hs.Rn n h
  ·exact .inr (hs.fresh b k x (Bd b k x g1 g2) g2)
 ·rintro n (h|⟨b,k,x,g1,g2,rfl⟩)
  ·exact hs.Rb n h
  ·obtain⟨oh,ho,hr⟩:=hs.m.rel b k (Bd b k x g1 g2);rw [g2] at ho;cases ho;obtain⟨_,_,_,_,C,r5,_⟩:=hr;exact(Array.getElem?_eq_some_iff.1 r5).1
section
variable{P:Program} {tt:TT} {Q:Exit→St→Prop} {s:St}
theorem acF {body:Code} {h:St} (hw:Bu s h) (hh:dW P lim body Q h):dW P lim body Q s:=
 fun c ep a w hs=>hh c ep a w (hs.freeze hw)
theorem IP {L:Mem} {ρ:cZ} {s:St}:∀{a b:List (Nat×AV)},qW L ρ s a→qW L ρ s b→qW L ρ s (a++b)
 |[],_,_,h=>h
 |(_,_)::_,_,h,h'=>⟨h.1,IP h.2 h'⟩
theorem IQ {L:Mem} {ρ:cZ} {m:Mem}:∀{a b:Mem},nk L ρ m a→nk L ρ m b→nk L ρ m (a++b)
 |[],_,_,h=>h
 |(_,none)::_,_,h,_=>by simp [nk] at h
 |(_,some _)::_,_,h,h'=>⟨h.1,IQ h.2 h'⟩
mutual
theorem PC {L:Mem} {ρ:cZ}:∀(x y:AV),bX [] ρ x y→bX L ρ x y
 |.agg cs,.agg ds,h=>by simp only [bX] at h⊢;exact yw cs ds h
 |.cz cs,.cz ds,h=>by simp only [bX] at h⊢;exact yw cs ds h
 |.db f a b,.db f' a' b',h=>by simp only [bX] at h⊢;exact⟨h.1,yw a a' h.2.1,yw b b' h.2.2⟩
 |.arr b off len,.sl ys,h=>by simp [bX,x6,lk] at h
 |.sc v,y,h=>by cases y<;>simp only [bX] at h⊢<;>exact h
 |.b9,y,h=>by cases y<;>simp only [bX] at h⊢<;>exact h
 |.sl _,y,h=>by cases y<;>simp only [bX] at h⊢<;>exact h
 |.vp _,y,h=>by cases y<;>simp only [bX] at h⊢<;>exact h
 |.jb _ _ _,y,h=>by cases y<;>simp only [bX] at h⊢<;>exact h
 |.ju _,y,h=>by cases y<;>simp only [bX] at h⊢<;>exact h
 |.agg _,.ju _,h=>by simp [bX] at h
 |.cz _,.ju _,h=>by simp [bX] at h
 |.db _ _ _,.ju _,h=>by simp [bX] at h
 |.arr _ _ _,.ju _,h=>by simp [bX] at h
 |.agg _,.jb _ _ _,h=>by simp [bX] at h
 |.cz _,.jb _ _ _,h=>by simp [bX] at h
 |.db _ _ _,.jb _ _ _,h=>by simp [bX] at h
 |.arr _ _ _,.jb _ _ _,h=>by simp [bX] at h
 |.ref _ _ _,y,h=>by cases y<;>simp only [bX] at h⊢<;>first|exact h|(simp [Em,lk] at h;done)
 |.bot,y,h=>by cases y<;>simp only [bX] at h⊢
 |.agg _,.bot,_=>by simp [bX]
 |.cz _,.bot,_=>by simp [bX]
 |.db _ _ _,.bot,_=>by simp [bX]
 |.arr _ _ _,.bot,_=>by simp [bX]
 |.arr _ _ _,.arr _ _ _,h=>by simp only [bX] at h⊢;exact h
 |.agg _,.sc _,h=>by simp [bX] at h
 |.agg _,.b9,h=>by simp [bX] at h
 |.agg _,.cz _,h=>by simp [bX] at h
 |.agg _,.sl _,h=>by simp [bX] at h
 |.agg _,.vp _,h=>by simp [bX] at h
 |.agg _,.ref _ _ _,h=>by simp [bX] at h
 |.agg _,.arr _ _ _,h=>by simp [bX] at h
 |.agg _,.db _ _ _,h=>by simp [bX] at h
 |.cz _,.sc _,h=>by simp [bX] at h
 |.cz _,.b9,h=>by simp [bX] at h
 |.cz _,.agg _,h=>by simp [bX] at h
 |.cz _,.sl _,h=>by simp [bX] at h
 |.cz _,.vp _,h=>by simp [bX] at h
 |.cz _,.ref _ _ _,h=>by simp [bX] at h
 |.cz _,.arr _ _ _,h=>by simp [bX] at h
 |.cz _,.db _ _ _,h=>by simp [bX] at h
 |.db _ _ _,.sc _,h=>by simp [bX] at h
 |.db _ _ _,.b9,h=>by simp [bX] at h
 |.db _ _ _,.agg _,h=>by simp [bX] at h
 |.db _ _ _,.cz _,h=>by simp [bX] at h
 |.db _ _ _,.sl _,h=>by simp [bX] at h
 |.db _ _ _,.vp _,h=>by simp [bX] at h
 |.db _ _ _,.ref _ _ _,h=>by simp [bX] at h
 |.db _ _ _,.arr _ _ _,h=>by simp [bX] at h
 |.arr _ _ _,.sc _,h=>by simp [bX] at h
 |.arr _ _ _,.b9,h=>by simp [bX] at h
 |.arr _ _ _,.agg _,h=>by simp [bX] at h
 |.arr _ _ _,.cz _,h=>by simp [bX] at h
 |.arr _ _ _,.vp _,h=>by simp [bX] at h
 |.arr _ _ _,.ref _ _ _,h=>by simp [bX] at h
 |.arr _ _ _,.db _ _ _,h=>by simp [bX] at h
theorem yw {L:Mem} {ρ:cZ}:∀(x y:List AV),gP [] ρ x y→gP L ρ x y
 |[],[],h=>h
 |c::cs,d::ds,h=>by simp only [gP] at h⊢;exact⟨PC c d h.1,yw cs ds h.2⟩
 |[],_::_,h=>by simp [gP] at h
 |_::_,[],h=>by simp [gP] at h
end
theorem IS {L:Mem} {ρ:cZ} {s:St}:∀{l:List (Nat×AV)},pd ρ s l→qW L ρ s l
 |[],_=>trivial
 |(_,_)::_,h=>⟨PC _ _ h.1,IS h.2⟩
theorem IT {L:Mem} {ρ:cZ} {m:Mem}:∀{l:Mem},eT ρ m l→nk L ρ m l
 |[],_=>trivial
 |(_,none)::_,h=>by simp [eT] at h
 |(b,some k)::l,h=>by
  simp only [eT] at h;simp only [nk];refine⟨?_,IT h.2⟩;have h1:=h.1;cases hq:lk b ρ with
  |none=>simp [hq] at h1
  |some o=>
   cases o with
   |none=>simp only [hq] at h1⊢;exact h1
   |some q=>
    simp only [hq] at h1⊢;obtain⟨k0,e1,e2,e3,e4⟩:=h1;refine⟨k0,e1,e2,e3,?_⟩;rcases e4 with e4|⟨e4,e5⟩
    ·exact .inl e4
    ·exact .inr ⟨yw _ _ e4,e5⟩
def Bv (P:Program) (fn:Func) (r:AV) (s:St):Prop:=n9 P fn [] r [] s∨∃h,Bu s h∧n9 P fn [] r [] h
theorem vS {fn:Func} {s:St} {vs:List AV} {v r:AV} (ht:fK P tt) (hr:pW tt s fn.results.toList=some vs) (hv:vO vs=some v) (h:bX [] [] v r):Bv P fn r s:=
 .inl (aw ht hr hv h)
end
end Go.Ab
namespace Go.Ab
open Go.RowKit
section
variable{P:Program} {tt:TT} {ops:Array Oper} {draw:Bool} {Q:St→Prop} {acc:List (Option ec)} {l:List Oper}
theorem acG {o:Oper} {n ty e b len bt bz:Nat} {t t':List (Nat×AV)} {m:Mem} {x y:Operand} {D E:af} {k:IntKind} {i:Nat} {xs:List AV} (ht:fK P tt) (hi:i<len) (hg:eG ops ⟨n,t,m⟩ o=some true) (ho:o.op=.indexAddr ty x y) (hD:lk ty tt=some D) (hk:D.k=.slice e) (hE:lk e tt=some E)
  (hx:(⟨n,t,m⟩:St).ev x=.arr b 0 len) (hy:(⟨n,t,m⟩:St).ev y=.sc (.int k (i:Int))) (hb:lk b m=some (some ⟨bt,bz,xs⟩)) (hz:Nat.beq bz E.size=true) (hp:fX n t o.dst (.ref b i 0)=some t')
  (h:Go P ops draw Q l ⟨n,t',m⟩ (some ⟨.ref b i 0,[],[b],[]⟩::acc)):Go P ops draw Q (o::l) ⟨n,t,m⟩ acc:=by
 have hA:di P o ⟨n,t,m⟩ ⟨.ref b i 0,[],[b],[]⟩:=by
  have:=HC (P:=P) (o:=o) (s:=⟨n,t,m⟩) ho (ht _ _ hD) hk (ht _ _ hE) hx hy hb hz (by omega) (by omega);simpa using this
 exact eA hg hA rfl hp rfl h
theorem acH {o:Oper} {n ty k e:Nat} {t t':List (Nat×AV)} {m:Mem} {x y:Operand} {D E:af} {kd:IntKind} {i:Nat} {cs:List AV} {v:AV} (ht:fK P tt) (hi:i<k) (hv:rd E cs (i*E.size)=some v) (hg:eG ops ⟨n,t,m⟩ o=some true) (ho:o.op=.index ty x y) (hD:lk ty tt=some D) (hk:D.k=.array k e) (hE:lk e tt=some E)
  (hx:(⟨n,t,m⟩:St).ev x=.agg cs) (hy:(⟨n,t,m⟩:St).ev y=.sc (.int kd (i:Int))) (hp:fX n t o.dst v=some t')
  (h:Go P ops draw Q l ⟨n,t',m⟩ (some ⟨v,[],[],[]⟩::acc)):Go P ops draw Q (o::l) ⟨n,t,m⟩ acc:=
 eA hg (OI (P:=P) (o:=o) (s:=⟨n,t,m⟩) ho (ht _ _ hD) hk (ht _ _ hE) hx hy (by omega) (by omega) (by simpa using hv)) rfl hp rfl h
end
variable{lim:Nat}
section
variable{P:Program} {tt:TT}
theorem gJ {Q:Exit→St→Prop} {body:Code} {n:Nat} {t:List (Nat×AV)} {m:Mem} (K KB:List Nat) (L:Mem) (ρ:cZ) (mt:List (Nat×AV)) (mm:Mem) {kt:List (Nat×AV)} {km:Mem} (hk:sd t K=some kt) (IU:se m KB=some km) (hr:pe ρ (mm++km)=true) (ht:yo ρ kt=true) (hm:yp ρ km=true)
  (hL:mA ρ m L) (IV:qW L ρ ⟨n,t,m⟩ mt) (IW:nk L ρ m mm) (h:dW P lim body Q ⟨n,mt++kt,mm++km⟩):dW P lim body Q ⟨n,t,m⟩:=
 acF (h:=⟨n,mt++kt,mm++km⟩) ⟨L,ρ,rfl,hr,hL,IP IV (IS (vM hk ht)),IQ IW (IT (vN IU hm))⟩ h
def iN (s:ByteArray) (k:Nat):Int:=((s.data[k]?).getD 0).toNat
variable{ops:Array Oper} {draw:Bool} {Q:St→Prop} {acc:List (Option ec)} {l:List Oper}
theorem acI {o:Oper} {n ty:Nat} {t t':List (Nat×AV)} {m:Mem} {x y:Operand} {D:af} {kd:IntKind} {i:Nat} {s:ByteArray} (ht:fK P tt) (hi:i<s.size) (hg:eG ops ⟨n,t,m⟩ o=some true) (ho:o.op=.index ty x y) (hD:lk ty tt=some D) (hk:D.k=.str)
  (hx:(⟨n,t,m⟩:St).ev x=.sc (.string s)) (hy:(⟨n,t,m⟩:St).ev y=.sc (.int kd (i:Int))) (hp:fX n t o.dst (.sc (.int .u8 (iN s i)))=some t')
  (h:Go P ops draw Q l ⟨n,t',m⟩ (some ⟨.sc (.int .u8 (iN s i)),[],[],[]⟩::acc)):Go P ops draw Q (o::l) ⟨n,t,m⟩ acc:=by
 have ng:i<s.data.size:=hi;have hA:=aa5 (P:=P) (o:=o) (s:=⟨n,t,m⟩) (u:=s[i]) ho (ht _ _ hD) hk hx hy (by omega) (by simp [hi])
 have e:((s[i]:UInt8).toNat:Int)=iN s i:=by
  unfold iN;rw [Array.getElem?_eq_getElem ng];rfl
 rw [e] at hA;exact eA hg hA rfl hp rfl h
end
end Go.Ab
namespace Go.Ab
open Go.RowKit
variable{lim:Nat}
section
variable{α β X Y:Type}
def cH (x:α) (K:α→β):β:=K x
theorem dT {x:α} {K:α→β} {r:β} (h:cH x K=r):∃v,x=v∧K v=r:=⟨x,rfl,h⟩
theorem ak {c:Bool} {A B r:α} (h:cond c A B=r) (hc:c=true):A=r:=by subst hc;exact h
theorem an {c:Bool} {A B r:α} (h:cond c A B=r) (hc:c=false):B=r:=by subst hc;exact h
theorem ai {x:Option α} {K:α→Option β} {r:β} (h:x.bind K=some r):∃v,x=some v∧K v=some r:=Option.bind_eq_some_iff.1 h
theorem ae {a b:α} (h:some a=some b):a=b:=Option.some.inj h
theorem ki {c:Bool} {K:Option α} {r:α} (h:cond c K none=some r):c=true∧K=some r:=by
 cases c with
 |false=>cases h
 |true=>exact⟨rfl,h⟩
theorem bZ {γ:Type} {f:α→γ} {K:β→γ} {t:α} {r:γ} (h:Sum.elim f K (κ t)=r):f t=r:=h
theorem dX {γ:Type} {f:α→γ} {K:β→γ} {t:β} {r:γ} (h:Sum.elim f K (ι t)=r):K t=r:=h
theorem cp {x:α} {v:α⊕β} (h:some (κ x)=some v):∃t,some x=some t∧κ t=v:=⟨x,rfl,ae h⟩
theorem bf {x:β} {v:α⊕β} (h:some (ι x)=some v):∃t,some x=some t∧ι t=v:=⟨x,rfl,ae h⟩
def jV (step:X→Option (X⊕Y)):Nat→X→Option Y
 |0,_=>none
 |n+1,x=>match step x with
  |none=>none
  |some (.inl x')=>jV step n x'
  |some (.inr y)=>some y
open Classical in
def bR (step:X→Option (X⊕Y)) (x:X):Option Y:=if h:∃y,∃n,jV step n x=some y then some h.choose else none
theorem PD {step:X→Option (X⊕Y)}:∀{n m:Nat} {x:X} {y z:Y},jV step n x=some y→jV step m x=some z→y=z
 |0,_,_,_,_,h,_=>by cases h
 |_+1,0,_,_,_,_,h=>by cases h
 |n+1,m+1,x,y,z,h,k=>by
  simp only [jV] at h k;split at h
  ·cases h
  ·rename_i x' hx;rw [hx] at k;exact PD h k
  ·rename_i y' hx;rw [hx] at k;cases h;cases k;rfl
theorem ES {step:X→Option (X⊕Y)} {x:X} {y:Y} (h:bR step x=some y):∃n,jV step n x=some y:=by
 unfold bR at h;split at h
 ·rename_i he;cases h;exact he.choose_spec
 ·cases h
theorem ET {step:X→Option (X⊕Y)} {x:X} {y:Y} {n:Nat} (h:jV step n x=some y):bR step x=some y:=by
 have he:∃y,∃n,jV step n x=some y:=⟨y,n,h⟩
 unfold bR;rw [dif_pos he];obtain⟨m,hm⟩:=he.choose_spec;rw [PD hm h]
theorem nm {step:X→Option (X⊕Y)} {x x':X} (h:step x=some (.inl x')):bR step x=bR step x':=by
 cases hy:bR step x' with
 |some y=>
  obtain⟨n,hn⟩:=ES hy;exact ET (n:=n+1) (by simp only [jV,h];exact hn)
 |none=>
  cases hz:bR step x with
  |none=>rfl
  |some y=>
   obtain⟨n,hn⟩:=ES hz;cases n with
   |zero=>cases hn
   |succ n=>
    simp only [jV,h] at hn;rw [ET hn] at hy;cases hy
theorem gQ {step:X→Option (X⊕Y)} {x:X} {y:Y} (h:step x=some (.inr y)):bR step x=some y:=
 ET (n:=1) (by simp only [jV,h])
theorem uj {step:X→Option (X⊕Y)} (I:X→Prop) (μ:X→Nat) (G:Y→Prop) (hs:∀x,I x→(∃x',step x=some (.inl x')∧I x'∧μ x'<μ x)∨∃y,step x=some (.inr y)∧G y):∀(x:X),I x→∃y,bR step x=some y∧G y:=by
 intro x
 induction hn:μ x using Nat.strongRecOn generalizing x with
 |ind n ih=>
  intro hx;rcases hs x hx with⟨x',h1,h2,h3⟩|⟨y,h1,h2⟩
  ·rw [nm h1];exact ih (μ x') (hn▸h3) x' rfl h2
  ·exact⟨y,gQ h1,h2⟩
def eV (N:Nat) (step:X→Option (X⊕Y)) (x:X):Option Y:=jV step N x
def cw (x y:Option α):Prop:=∀r,x=some r→y=some r
theorem cK {x:Option α}:cw x x:=fun _ h=>h
theorem cO {c:Bool} {a b a' b':Option α} (h1:cw a a') (h2:cw b b'):cw (cond c a b) (cond c a' b'):=by
 cases c
 ·exact h2
 ·exact h1
theorem cP {x x':Option α} {K K':α→Option β} (h1:cw x x') (h2:∀v,cw (K v) (K' v)):cw (x.bind K) (x'.bind K'):=by
 intro r h;obtain⟨v,hv,hk⟩:=ai h;rw [h1 v hv];exact h2 v r hk
theorem cQ {x:α} {K K':α→Option β} (h2:∀v,cw (K v) (K' v)):cw (cH x K) (cH x K'):=h2 x
theorem cR {x x':Option α} {f:α→β} (h1:cw x x'):cw (x.map f) (x'.map f):=by
 intro r h;rw [Option.map_eq_some_iff] at h;obtain⟨v,hv,rfl⟩:=h;rw [h1 v hv];rfl
theorem cS {γ:Type} {f f':α→Option γ} {g g':β→Option γ} {v:α⊕β} (h1:∀v,cw (f v) (f' v)) (h2:∀v,cw (g v) (g' v)):cw (Sum.elim f g v) (Sum.elim f' g' v):=by
 cases v with
 |inl v=>exact h1 v
 |inr v=>exact h2 v
theorem cX {N:Nat} {step IX:X→Option (X⊕Y)} {x:X} (h:∀x,cw (step x) (IX x)):cw (eV N step x) (bR IX x):=by
 intro r hr
 have:jV IX N x=some r:=by
  unfold eV at hr
  induction N generalizing x with
  |zero=>cases hr
  |succ n ih=>
   simp only [jV] at hr⊢;cases hs:step x with
   |none=>rw [hs] at hr;cases hr
   |some z=>
    rw [hs] at hr;rw [h x z hs];cases z with
    |inl x'=>exact ih hr
    |inr y=>exact hr
 exact ET this
open Classical in
def Bw (f:Nat→Option α):Option α:=if h:∃y,∃n,f n=some y then some h.choose else none
theorem acJ {f:Nat→Option α} {y:α} (h:Bw f=some y):∃n,f n=some y:=by
 unfold Bw at h;split at h
 ·rename_i he;cases h;exact he.choose_spec
 ·cases h
theorem acK {f:Nat→Option α} {y:α} (hm:∀n,cw (f n) (f (n+1))) {n:Nat} (h:f n=some y):Bw f=some y:=by
 have up:∀n k y,f n=some y→f (n+k)=some y:=by
  intro n k
  induction k with
  |zero=>intro y h;exact h
  |succ k ih=>intro y h;exact hm _ _ (ih y h)
 have he:∃y,∃n,f n=some y:=⟨y,n,h⟩
 unfold Bw;rw [dif_pos he];obtain⟨k,hk⟩:=he.choose_spec;have h1:=up n k y h;have h2:=up k n _ hk;rw [Nat.add_comm] at h2;rw [h1] at h2;exact h2.symm▸rfl
def kj (a b:ByteArray):Bool:=a.data.toList==b.data.toList
theorem acL (a b:ByteArray):(a.toList==b.toList)=kj a b:=by
 unfold kj;rw [ByteArray.toList_eq,ByteArray.toList_eq]
def EU (y:Y) (R:X→Prop):X⊕Y→Prop
 |.inl x'=>R x'
 |.inr y'=>y'=y
def aK (l:List α):Int→Option α
 |.ofNat n=>l[n]?
 |.negSucc _=>none
@[simp] theorem PE (l:List α) (n:Nat):aK l (n:Int)=l[n]?:=rfl
theorem uk {l:List α} {i:Int} {e:α} (h:aK l i=some e):0≤i∧l[i.toNat]?=some e:=by
 cases i with
 |ofNat n=>exact⟨Int.natCast_nonneg _,h⟩
 |negSucc n=>cases h
theorem acM {l:List α} {n:Nat} (h:n<l.length):aK l (n:Int)=some l[n]:=by simp [h]
def bp (l:List α) (i:Int) (e:α):List α:=l.set i.toNat e
def dF (bytes:Nat) (xs ys:List α):Option (List α):=bif Nat.ble ((xs.length+ys.length)*bytes) 140737488355328&&Nat.ble (xs.length+ys.length) 9223372036854775807 then some (xs++ys) else none
theorem PF {bytes:Nat} {xs ys zs:List α} (h:dF bytes xs ys=some zs):zs=xs++ys∧(xs.length+ys.length)*bytes≤140737488355328∧xs.length+ys.length≤9223372036854775807:=by
 unfold dF at h;cases hc:(Nat.ble ((xs.length+ys.length)*bytes) 140737488355328&&Nat.ble (xs.length+ys.length) 9223372036854775807) with
 |false=>rw [hc] at h;cases h
 |true=>
  rw [hc] at h;cases h;simp only [Bool.and_eq_true] at hc;exact⟨rfl,Nat.le_of_ble_eq_true hc.1,Nat.le_of_ble_eq_true hc.2⟩
theorem np {bytes:Nat} {xs ys:List α} (h1:(xs.length+ys.length)*bytes≤140737488355328) (h2:xs.length+ys.length≤9223372036854775807):dF bytes xs ys=some (xs++ys):=by
 unfold dF;rw [Nat.ble_eq_true_of_le h1,Nat.ble_eq_true_of_le h2];rfl
def lh (bytes:Nat) (z:α) (n:Int):Option (List α):=bif decide (0≤n)&&(decide (n≤9223372036854775807)&&decide (n*bytes≤281474976710656)) then some (List.replicate n.toNat z) else none
theorem PG {bytes:Nat} {z:α} {n:Int} {zs:List α} (h:lh bytes z n=some zs):zs=List.replicate n.toNat z∧0≤n∧n≤9223372036854775807∧n*bytes≤281474976710656:=by
 unfold lh at h;cases hc:(decide (0≤n)&&(decide (n≤9223372036854775807)&&decide (n*bytes≤281474976710656))) with
 |false=>rw [hc] at h;cases h
 |true=>
  rw [hc] at h;cases h;simp only [Bool.and_eq_true,decide_eq_true_eq] at hc;exact⟨rfl,hc.1,hc.2.1,hc.2.2⟩
theorem acN {bytes:Nat} {z:α} {n:Int} (h0:0≤n) (h1:n≤9223372036854775807) (h2:n*bytes≤281474976710656):lh bytes z n=some (List.replicate n.toNat z):=by
 unfold lh;rw [decide_eq_true h0,decide_eq_true h1,decide_eq_true h2];rfl
def jW (s:ByteArray):Int→Option Int
 |.ofNat n=>bif Nat.blt n s.size then some (iN s n) else none
 |.negSucc _=>none
theorem acO {s:ByteArray} {i v:Int} (h:jW s i=some v):∃n:Nat,i=n∧n<s.size∧v=iN s n:=by
 cases i with
 |ofNat n=>
  refine⟨n,rfl,?_⟩;have h:(bif Nat.blt n s.size then some (iN s n) else none)=some v:=h;cases hc:Nat.blt n s.size with
  |false=>rw [hc] at h;cases h
  |true=>rw [hc] at h;cases h;exact⟨by simpa [Nat.blt_eq] using hc,rfl⟩
 |negSucc n=>cases h
theorem IY {s:ByteArray} {n:Nat} (h:n<s.size):jW s (n:Int)=some (iN s n):=by
 show cond _ _ _=_
 rw [show Nat.blt n s.size=true by simpa [Nat.blt_eq] using h]
 rfl
end
theorem qX {α:Type} {enc:α→AV} (h:∀x,fp (enc x)=true) (xs:List α):∀y∈xs.map enc,fp y=true:=by
 intro y hy;obtain⟨x,_,rfl⟩:=List.mem_map.1 hy;exact h x
theorem aP {v:AV} (h:fp v=true):∀y∈[v],fp y=true:=by
 intro y hy;rw [List.mem_singleton] at hy;subst hy;exact h
theorem acP {α:Type} {m:Mem} {b e z len:Nat} {enc:α→AV} {xs:List α} (hb:lk b m=some (some ⟨e,z,xs.map enc⟩)) (hlen:len=xs.length) (h:∀x,fp (enc x)=true):x6 m b 0 len (xs.map enc):=by
 subst hlen;unfold x6;rw [hb];refine⟨by simp,?_,qX h xs⟩;have e:xs.length=(xs.map enc).length:=by simp
 rw [List.drop_zero,e,List.take_length]
theorem eW {α:Type} {m:Mem} {ρ:cZ} {b e z len:Nat} {enc:α→AV} {xs:List α} (hb:lk b m=some (some ⟨e,z,xs.map enc⟩)) (hlen:len=xs.length) (h:∀x,fp (enc x)=true):bX m ρ (.arr b 0 len) (.sl (xs.map enc)):=by
 rw [bX];exact acP hb hlen h
theorem ei {α:Type} {m:Mem} {ρ:cZ} {enc:α→AV}:bX m ρ .b9 (.sl (([]:List α).map enc)):=by
 rw [bX];rfl
theorem PH {α:Type} {enc:α→AV} (xs:List α):xs.map enc=((xs.map enc).drop 0).take xs.length:=by
 have e:xs.length=(xs.map enc).length:=by simp
 rw [List.drop_zero,e,List.take_length]
theorem PI {α:Type} {enc:α→AV} (xs:List α):(xs.map enc).take xs.length=xs.map enc:=by
 have:=PH (enc:=enc) xs;rw [List.drop_zero] at this;exact this.symm
theorem aC {α:Type} {ρ:cZ} {enc:α→AV} (xs:List α) (h:∀x,fp (enc x)=true):En ρ (xs.map enc) (xs.map enc):=.inl ⟨rfl,qX h xs⟩
section
variable{P:Program} {tt:TT} {Q:Exit→St→Prop} {n:Nat} {t:List (Nat×AV)} {m:Mem}
theorem acQ {body:Code} {K KB:List Nat} {mt:List (Nat×AV)} {mm:Mem} {kt:List (Nat×AV)} {km:Mem} {ρ:cZ} {s':St} (hn:s'.n=n) (hf:Fits K KB kt km ρ s' mt mm) (h:dW P lim body Q ⟨n,mt++kt,mm++km⟩):dW P lim body Q s':=by
 obtain⟨n',t',m'⟩:=s';subst hn;refine abV (h:=⟨n',mt++kt,mm++km⟩) ⟨ρ,rfl,hf.EI,?_,?_⟩ h
 ·exact Bm hf.t (vM hf.k hf.EJ)
 ·exact Bn hf.m (vN hf.kb hf.EK)
theorem cx {X:Type} {x y:Code} (K KB:List Nat) (mt:X→List (Nat×AV)) (mm:X→Mem) (G:X→Prop) {kt:List (Nat×AV)} {km:Mem} (hk:sd t K=some kt) (hb:se m KB=some km)
  (hx:dW P lim x (iE (fun s'=>s'.n=n∧∃v ρ,Fits K KB kt km ρ s' (mt v) (mm v)∧G v) Q) ⟨n,t,m⟩) (hy:∀v,G v→dW P lim y Q ⟨n,mt v++kt,mm v++km⟩):dW P lim (.seq x y) Q ⟨n,t,m⟩:=by
 have _:=hk;have _:=hb;refine aD ?_;intro c ep a w hs;have:=hx c ep a w hs;refine Code.wp_mono ?_ this;rintro e a' w' ⟨s',cJ,hq⟩;cases e with
 |normal=>
  obtain⟨hn,v,ρ,hf,hg⟩:=hq;exact⟨s',cJ,acQ hn hf (hy v hg)⟩
 |_=>exact⟨s',cJ,hq⟩
theorem cN {X Y:Type} {body:Code} (K KB:List Nat) (mt:X→List (Nat×AV)) (mm:X→Mem) (step:X→Option (X⊕Y)) (x0:X) (rY:cZ) {kt:List (Nat×AV)} {km:Mem} {y:Y} (hy:bR step x0=some y)
  (h0:Fits K KB kt km rY ⟨n,t,m⟩ (mt x0) (mm x0))
  (hb:∀(x:X) (R:X→Prop) (z:X⊕Y),step x=some z→EU y R z→dW P lim body (iE (fun s'=>s'.n=n∧∃x' ρ,Fits K KB kt km ρ s' (mt x') (mm x')∧R x') Q) ⟨n,mt x++kt,mm x++km⟩):dW P lim (.loop body) Q ⟨n,t,m⟩:=by
 obtain⟨N,hN⟩:=ES hy;refine acq (X:={p:Nat×X//jV step p.1 p.2=some y}) K KB (fun p=>mt p.1.2) (fun p=>mm p.1.2) (fun p=>p.1.1) ⟨(N,x0),hN⟩ rY h0 ?_;rintro⟨⟨k,x⟩,hp⟩;cases k with
 |zero=>cases hp
 |succ k=>
  have:∃z,step x=some z∧EU y (fun x'=>jV step k x'=some y) z:=by
   simp only [jV] at hp;cases hs:step x with
   |none=>rw [hs] at hp;cases hp
   |some z=>
    rw [hs] at hp;cases z with
    |inl x'=>exact⟨_,rfl,hp⟩
    |inr y'=>cases hp;exact⟨_,rfl,rfl⟩
  obtain⟨z,hz,hc⟩:=this;have:=hb x (fun x'=>jV step k x'=some y) z hz hc;intro c ep a w hs;refine Code.wp_mono ?_ (this c ep a w hs);rintro e a' w' ⟨s',cJ,hq⟩;refine⟨s',cJ,?_⟩;cases e with
  |normal=>
   obtain⟨hn,x',ρ,hf,hr⟩:=hq;exact⟨hn,⟨(k,x'),hr⟩,ρ,hf,Nat.lt_succ_self _⟩
  |_=>exact hq
variable{ops:Array Oper} {draw:Bool} {Q:St→Prop} {acc:List (Option ec)} {l:List Oper}
theorem cq {α:Type} {o:Oper} {ty el:Nat} {t':List (Nat×AV)} {x y:Operand} {D E:af} {k:IntKind} (enc:α→AV) (xs:List α) (i:Int) (e:α) (he:aK xs i=some e) (ht:fK P tt) (hg:eG ops ⟨n,t,m⟩ o=some true) (ho:o.op=.indexAddr ty x y) (hD:lk ty tt=some D) (hk:D.k=.slice el) (hE:lk el tt=some E)
  (hx:(⟨n,t,m⟩:St).ev x=.sl (xs.map enc)) (hy:(⟨n,t,m⟩:St).ev y=.sc (.int k i)) (hl:Nat.beq (enc e).cells.length E.size=true) (hp:fX n t o.dst (.vp (enc e).cells)=some t')
  (h:Go P ops draw Q l ⟨n,t',m⟩ (some ⟨.vp (enc e).cells,[],[],[]⟩::acc)):Go P ops draw Q (o::l) ⟨n,t,m⟩ acc:=by
 obtain⟨h0,h1⟩:=uk he;exact acr ht h0 (ev:=enc e) (by rw [List.getElem?_map,h1];rfl) hg ho hD hk hE hx hy hl hp h
theorem eO {α:Type} {o:Oper} {ty el b bt bz len:Nat} {t':List (Nat×AV)} {x y:Operand} {D E:af} {k:IntKind} (enc:α→AV) (xs:List α) (i:Int) (e:α) (he:aK xs i=some e) (hlen:len=xs.length) (ht:fK P tt) (hg:eG ops ⟨n,t,m⟩ o=some true) (ho:o.op=.indexAddr ty x y) (hD:lk ty tt=some D) (hk:D.k=.slice el) (hE:lk el tt=some E)
  (hx:(⟨n,t,m⟩:St).ev x=.arr b 0 len) (hy:(⟨n,t,m⟩:St).ev y=.sc (.int k i)) (hb:lk b m=some (some ⟨bt,bz,xs.map enc⟩)) (hz:Nat.beq bz E.size=true) (hp:fX n t o.dst (.ref b i.toNat 0)=some t')
  (h:Go P ops draw Q l ⟨n,t',m⟩ (some ⟨.ref b i.toNat 0,[],[b],[]⟩::acc)):Go P ops draw Q (o::l) ⟨n,t,m⟩ acc:=by
 obtain⟨h0,h1⟩:=uk he;have hi:i.toNat<xs.length:=(List.getElem?_eq_some_iff.1 h1).1;exact acG (i:=i.toNat) ht (by omega) hg ho hD hk hE hx (by rw [hy,Int.toNat_of_nonneg h0]) hb hz hp h
theorem fC {α:Type} {o:Oper} {T b bt bz off:Nat} {t':List (Nat×AV)} {x:Operand} {D:af} (enc:α→AV) (xs:List α) (i:Int) (e:α) (v:AV) (he:aK xs i=some e) (ht:fK P tt) (hg:eG ops ⟨n,t,m⟩ o=some true) (ho:o.op=.load T x) (hD:lk T tt=some D)
  (hx:(⟨n,t,m⟩:St).ev x=.ref b i.toNat off) (hb:lk b m=some (some ⟨bt,bz,xs.map enc⟩)) (hv:rd D (enc e).cells off=some v) (hp:fX n t o.dst v=some t')
  (h:Go P ops draw Q l ⟨n,t',m⟩ (some ⟨v,[],[b],[]⟩::acc)):Go P ops draw Q (o::l) ⟨n,t,m⟩ acc:=by
 obtain⟨h0,h1⟩:=uk he;exact eA hg (Oz (P:=P) (o:=o) (s:=⟨n,t,m⟩) (e:=enc e) ho (ht _ _ hD) hx hb (by show(xs.map enc)[i.toNat]?=_;rw [List.getElem?_map,h1];rfl) hv) rfl hp rfl h
theorem jy {α:Type} {o:Oper} {T b bt bz off:Nat} {t':List (Nat×AV)} {m':Mem} {x y:Operand} {D:af} {v:AV} (enc:α→AV) (xs:List α) (i:Int) (e e':α) (he:aK xs i=some e) (ht:fK P tt) (hg:eG ops ⟨n,t,m⟩ o=some true) (ho:o.op=.store T x y) (hD:lk T tt=some D)
  (hx:(⟨n,t,m⟩:St).ev x=.ref b i.toNat off) (hb:lk b m=some (some ⟨bt,bz,xs.map enc⟩)) (hy:force ((⟨n,t,m⟩:St).ev y)=some v) (hv:v.cells.all AV.k9=true) (g_:(match v with|.bot=>false|_=>true)=true) (hl:Nat.beq v.cells.length D.size=true) (hu:tK (enc e) off v.cells=some (enc e'))
  (hp:fX n t o.dst (.cz [])=some t') (hm:l9 [(b,some ⟨bt,bz,(bp xs i e').map enc⟩)] m=some m')
  (h:Go P ops draw Q l ⟨n,t',m'⟩ (some ⟨.cz [],[(b,some ⟨bt,bz,(bp xs i e').map enc⟩)],[b],[]⟩::acc)):Go P ops draw Q (o::l) ⟨n,t,m⟩ acc:=by
 obtain⟨h0,h1⟩:=uk he
 have hA:di P o ⟨n,t,m⟩ ⟨.cz [],[(b,some ⟨bt,bz,(bp xs i e').map enc⟩)],[b],[]⟩:=by
  have:=OA (P:=P) (o:=o) (s:=⟨n,t,m⟩) (e:=enc e) ho (ht _ _ hD) hx hb (force_eq hy) (by intro h;subst h;simp at g_) hl hv (by show(xs.map enc)[i.toNat]?=_;rw [List.getElem?_map,h1];rfl) hu
  simpa [bp,List.map_set] using this
 exact eA hg hA rfl hp hm h
theorem iF {α:Type} {o:Oper} {ty e d b b2 e' z' e2 z2 len PJ:Nat} {t':List (Nat×AV)} {m':Mem} {x y:Operand} {D E:af} (enc:α→AV) (xs ys zs:List α) (mH:dF E.bytes xs ys=some zs) (nS:∀x,(enc x).cells.all AV.k9=true) (qY:len=xs.length) (lj:PJ=ys.length) (ht:fK P tt)
  (hg:eG ops ⟨n,t,m⟩ o=some true) (ho:o.op=lZ .append #[x,y] #[ty,ty]) (hD:lk ty tt=some D) (hk:D.k=.slice e) (hE:lk e tt=some E) (hz:Nat.blt 0 E.size=true)
  (hx:(⟨n,t,m⟩:St).ev x=.arr b 0 len) (hb:lk b m=some (some ⟨e',z',xs.map enc⟩)) (vo:Nat.beq e' e=true) (jF:Nat.beq z' E.size=true)
  (hy:(⟨n,t,m⟩:St).ev y=.arr b2 0 PJ) (ph:lk b2 m=some (some ⟨e2,z2,ys.map enc⟩)) (hz2:Nat.beq z2 E.size=true)
  (hd:o.dst=some d) (hn:mD ⟨n,t,m⟩ [d]=true) (hp:fX n t (some d) (.arr d 0 zs.length)=some t') (hm:l9 [(d,some ⟨e,E.size,zs.map enc⟩),(b,none)] m=some m')
  (h:Go P ops draw Q l ⟨n,t',m'⟩ (some ⟨.arr d 0 zs.length,[(d,some ⟨e,E.size,zs.map enc⟩),(b,none)],[b,b2],[d]⟩::acc)):Go P ops draw Q (o::l) ⟨n,t,m⟩ acc:=by
 subst qY lj;obtain⟨rfl,h1,h2⟩:=PF mH
 have hA:di P o ⟨n,t,m⟩ ⟨.arr d 0 (xs++ys).length,[(d,some ⟨e,E.size,(xs++ys).map enc⟩),(b,none)],[b,b2],[d]⟩:=by
  have:=O1 (P:=P) (o:=o) (s:=⟨n,t,m⟩) (d:=d) (ys:=ys.map enc) (acc:=[b2]) ho (ht _ _ hD) hk (ht _ _ hE) hz hx hb vo jF (by simp)
   (.inr (.inr ⟨b2,0,ys.length,_,hy,ph,Nat.eq_of_beq_eq_true hz2,by simp,PH ys,by simp⟩)) (by simpa using fun x _ c hc=>(List.all_eq_true.1 (nS x)) c hc) (by simpa using h1) (by simpa using h2)
  simpa [PI] using this
 exact eA hg hA hn (by rw [hd];exact hp) hm h
theorem si {α:Type} {o:Oper} {ty e d b e' z' len:Nat} {t':List (Nat×AV)} {m':Mem} {x y:Operand} {D E:af} (enc:α→AV) (xs ys zs:List α) (mH:dF E.bytes xs ys=some zs) (nS:∀x,(enc x).cells.all AV.k9=true) (iM:∀x,(enc x).cells.length=E.size) (qY:len=xs.length) (ht:fK P tt)
  (hg:eG ops ⟨n,t,m⟩ o=some true) (ho:o.op=lZ .append #[x,y] #[ty,ty]) (hD:lk ty tt=some D) (hk:D.k=.slice e) (hE:lk e tt=some E) (hz:Nat.blt 0 E.size=true)
  (hx:(⟨n,t,m⟩:St).ev x=.arr b 0 len) (hb:lk b m=some (some ⟨e',z',xs.map enc⟩)) (vo:Nat.beq e' e=true) (jF:Nat.beq z' E.size=true)
  (hy:(⟨n,t,m⟩:St).ev y=.sl (ys.map enc))
  (hd:o.dst=some d) (hn:mD ⟨n,t,m⟩ [d]=true) (hp:fX n t (some d) (.arr d 0 zs.length)=some t') (hm:l9 [(d,some ⟨e,E.size,zs.map enc⟩),(b,none)] m=some m')
  (h:Go P ops draw Q l ⟨n,t',m'⟩ (some ⟨.arr d 0 zs.length,[(d,some ⟨e,E.size,zs.map enc⟩),(b,none)],[b],[d]⟩::acc)):Go P ops draw Q (o::l) ⟨n,t,m⟩ acc:=by
 subst qY;obtain⟨rfl,h1,h2⟩:=PF mH
 have hA:di P o ⟨n,t,m⟩ ⟨.arr d 0 (xs++ys).length,[(d,some ⟨e,E.size,(xs++ys).map enc⟩),(b,none)],[b],[d]⟩:=by
  have:=O1 (P:=P) (o:=o) (s:=⟨n,t,m⟩) (d:=d) (ys:=ys.map enc) (acc:=[]) ho (ht _ _ hD) hk (ht _ _ hE) hz hx hb vo jF (by simp)
   (.inl ⟨hy,by simpa using fun x _=>iM x⟩) (by simpa using fun x _ c hc=>(List.all_eq_true.1 (nS x)) c hc) (by simpa using h1) (by simpa using h2)
  simpa [PI] using this
 exact eA hg hA hn (by rw [hd];exact hp) hm h
theorem By {α:Type} {o:Oper} {ty e d:Nat} {t':List (Nat×AV)} {m':Mem} {x y:Operand} {D E:af} {k:IntKind} (enc:α→AV) (z:α) (i:Int) (zs:List α) (mH:lh E.bytes z i=some zs) (ht:fK P tt) (hg:eG ops ⟨n,t,m⟩ o=some true) (ho:o.op=.makeSlice ty x y) (hD:lk ty tt=some D) (hk:D.k=.slice e) (hE:lk e tt=some E)
  (hx:(⟨n,t,m⟩:St).ev x=.sc (.int k i)) (hy:(⟨n,t,m⟩:St).ev y=.sc (.int k i)) (hz:Nat.blt 0 E.size=true) (jv:E.zero=enc z) (hd:o.dst=some d) (hn:mD ⟨n,t,m⟩ [d]=true)
  (hp:fX n t (some d) (.arr d 0 zs.length)=some t') (hm:l9 [(d,some ⟨e,E.size,zs.map enc⟩)] m=some m')
  (h:Go P ops draw Q l ⟨n,t',m'⟩ (some ⟨.arr d 0 zs.length,[(d,some ⟨e,E.size,zs.map enc⟩)],[],[d]⟩::acc)):Go P ops draw Q (o::l) ⟨n,t,m⟩ acc:=by
 obtain⟨rfl,h0,h1,h2⟩:=PG mH
 have hA:di P o ⟨n,t,m⟩ ⟨.arr d 0 (List.replicate i.toNat z).length,[(d,some ⟨e,E.size,(List.replicate i.toNat z).map enc⟩)],[],[d]⟩:=by
  have:=OM (P:=P) (o:=o) (s:=⟨n,t,m⟩) (d:=d) ho (ht _ _ hD) hk (ht _ _ hE) hx hy hz h0 h1 h2;simpa [jv] using this
 exact eA hg hA hn (by rw [hd];exact hp) hm h
theorem vT {o:Oper} {ty:Nat} {t':List (Nat×AV)} {x y:Operand} {D:af} {kd:IntKind} (s:ByteArray) (i v:Int) (hv:jW s i=some v) (ht:fK P tt) (hg:eG ops ⟨n,t,m⟩ o=some true) (ho:o.op=.index ty x y) (hD:lk ty tt=some D) (hk:D.k=.str)
  (hx:(⟨n,t,m⟩:St).ev x=.sc (.string s)) (hy:(⟨n,t,m⟩:St).ev y=.sc (.int kd i)) (hp:fX n t o.dst (.sc (.int .u8 v))=some t')
  (h:Go P ops draw Q l ⟨n,t',m⟩ (some ⟨.sc (.int .u8 v),[],[],[]⟩::acc)):Go P ops draw Q (o::l) ⟨n,t,m⟩ acc:=by
 obtain⟨j,rfl,h1,rfl⟩:=acO hv;exact acI ht h1 hg ho hD hk hx hy hp h
theorem yx {α:Type} {o:Oper} {ty k e:Nat} {t':List (Nat×AV)} {x y:Operand} {D E:af} {kd:IntKind} {cs:List AV} (enc:α→AV) (xs:List α) (i:Int) (el:α) (he:aK xs i=some el) (PK:xs.length=k) (hrd:∀j:Nat,∀el:α,xs[j]?=some el→rd E cs (j*E.size)=some (enc el)) (ht:fK P tt) (hg:eG ops ⟨n,t,m⟩ o=some true) (ho:o.op=.index ty x y) (hD:lk ty tt=some D) (hk:D.k=.array k e) (hE:lk e tt=some E)
  (hx:(⟨n,t,m⟩:St).ev x=.agg cs) (hy:(⟨n,t,m⟩:St).ev y=.sc (.int kd i)) (hp:fX n t o.dst (enc el)=some t')
  (h:Go P ops draw Q l ⟨n,t',m⟩ (some ⟨enc el,[],[],[]⟩::acc)):Go P ops draw Q (o::l) ⟨n,t,m⟩ acc:=by
 obtain⟨h0,h1⟩:=uk he;have hi:i.toNat<xs.length:=(List.getElem?_eq_some_iff.1 h1).1;exact acH (i:=i.toNat) ht (by omega) (hrd _ _ h1) hg ho hD hk hE hx (by rw [hy,Int.toNat_of_nonneg h0]) hp h
theorem bS {α:Type} {o:Oper} {ty e:Nat} {t':List (Nat×AV)} {x:Operand} {D:af} (enc:α→AV) (xs:List α) (ht:fK P tt) (hg:eG ops ⟨n,t,m⟩ o=some true) (ho:o.op=lZ .len #[x] #[ty]) (hD:lk ty tt=some D) (hk:D.k=.slice e)
  (hx:(⟨n,t,m⟩:St).ev x=.sl (xs.map enc)) (hp:fX n t o.dst (.sc (.int .i64 ((xs.length:Nat):Int)))=some t')
  (h:Go P ops draw Q l ⟨n,t',m⟩ (some ⟨.sc (.int .i64 ((xs.length:Nat):Int)),[],[],[]⟩::acc)):Go P ops draw Q (o::l) ⟨n,t,m⟩ acc:=by
 have hA:di P o ⟨n,t,m⟩ ⟨.sc (.int .i64 ((xs.length:Nat):Int)),[],[],[]⟩:=by
  refine Po (tt:=tt) (l:=[.sl (xs.map enc)]) ht ho (by simp [hx]) ?_;simp [EE,hD,hk,AZ,val]
 exact eA hg hA rfl hp rfl h
theorem acT {o:Oper} {ty um:Nat} {t':List (Nat×AV)} {x y:Operand} (a b:ByteArray) (hg:eG ops ⟨n,t,m⟩ o=some true) (ho:o.op=.binOp .eql ty x y um)
  (hx:(⟨n,t,m⟩:St).ev x=.sc (.string a)) (hy:(⟨n,t,m⟩:St).ev y=.sc (.string b)) (hp:fX n t o.dst (.sc (.bool (kj a b)))=some t')
  (h:Go P ops draw Q l ⟨n,t',m⟩ (some ⟨.sc (.bool (kj a b)),[],[],[]⟩::acc)):Go P ops draw Q (o::l) ⟨n,t,m⟩ acc:=
 eA hg (OL ho hx hy (by simp only [AY,acL])) rfl hp rfl h
theorem EV {o:Oper} {ty um:Nat} {t':List (Nat×AV)} {x y:Operand} {k:IntKind} (a b:Int) (hb:(b !=0)=true) (hg:eG ops ⟨n,t,m⟩ o=some true) (ho:o.op=.binOp .quo ty x y um)
  (hx:(⟨n,t,m⟩:St).ev x=.sc (.int k a)) (hy:(⟨n,t,m⟩:St).ev y=.sc (.int k b)) (hp:fX n t o.dst (.sc (.int k (k.wrap (a.tdiv b))))=some t')
  (h:Go P ops draw Q l ⟨n,t',m⟩ (some ⟨.sc (.int k (k.wrap (a.tdiv b))),[],[],[]⟩::acc)):Go P ops draw Q (o::l) ⟨n,t,m⟩ acc:=
 eA hg (OJ ho hx hy (by simpa using hb)) rfl hp rfl h
theorem vU {o:Oper} {ty um:Nat} {t':List (Nat×AV)} {x y:Operand} {k:IntKind} (a b:Int) (hb:(b !=0)=true) (hg:eG ops ⟨n,t,m⟩ o=some true) (ho:o.op=.binOp .rem ty x y um)
  (hx:(⟨n,t,m⟩:St).ev x=.sc (.int k a)) (hy:(⟨n,t,m⟩:St).ev y=.sc (.int k b)) (hp:fX n t o.dst (.sc (.int k (a.tmod b)))=some t')
  (h:Go P ops draw Q l ⟨n,t',m⟩ (some ⟨.sc (.int k (a.tmod b)),[],[],[]⟩::acc)):Go P ops draw Q (o::l) ⟨n,t,m⟩ acc:=
 eA hg (OK ho hx hy (by simpa using hb)) rfl hp rfl h
end
end Go.Ab
namespace Go.Ab
open Go.RowKit
theorem PL {α:Type} {enc:α→AV} (h:∀x,iU (enc x)=true) (xs:List α):∀y∈xs.map enc,iU y=true:=by
 intro y hy;obtain⟨x,_,rfl⟩:=List.mem_map.1 hy;exact h x
section
variable{P:Program} {tt:TT} {ops:Array Oper} {draw:Bool} {Q:St→Prop} {acc:List (Option ec)} {l:List Oper}
theorem eP {o:Oper} {n f:Nat} {t t':List (Nat×AV)} {m m':Mem} {fo:Operand} {xs:Array Operand} {gO:Array TypeId} {fs cs uo gZ args:List AV} {M M':Mem} {r:AV} (v:AV) (L W:Mem) (ρ σ:cZ) (hf:bI P f) (H:Holds P f args M r M') (hg:eG ops ⟨n,t,m⟩ o=some true) (ho:o.op=pg fo xs gO)
  (mC:(⟨n,t,m⟩:St).ev fo=.db f fs cs) (Bz:oc ⟨n,t,m⟩ xs.toList=some uo) (pj:fs++uo++cs=gZ) (hL:mA ρ m L) (fW:gP L ρ gZ args) (hi:iV ρ=true) (hk:(ρ.all fun p=>(lk p.1 M).isSome)=true) (hM:eT ρ m M)
  (ni:iV σ=true) (pU:(σ.all fun p=>(lk p.1 W).isSome)=true) (hW:eT σ M' W) (hv:bX [] σ r v) (n4:vE ρ M σ W=true) (mB:L≠[]→iU v=true∧qT W) (jE:mD ⟨n,t,m⟩ (kM ρ W)=true)
  (hp:fX n t o.dst v=some t') (hm:l9 (W++lG (et ρ)) m=some m')
  (h:Go P ops draw Q l ⟨n,t',m'⟩ (some ⟨v,W++lG (et ρ),et ρ++L.map (·.1),kM ρ W⟩::acc)):Go P ops draw Q (o::l) ⟨n,t,m⟩ acc:=by
 obtain⟨fn,h1,h2,h3⟩:=hf;exact eA hg (EA (M:=M) (M':=M') (L:=L) (W:=W) (ρ:=ρ) (σ:=σ) ho h1 h2 h3 mC (by rw [uc _ _ _ Bz];exact pj) H hL fW hi hk hM ni pU hW hv n4 mB) jE hp hm h
theorem yy {o:Oper} {n f:Nat} {t t':List (Nat×AV)} {m:Mem} {fo:Operand} {xs:Array Operand} {gO:Array TypeId} {fs cs uo gZ args:List AV} {L:Mem} {r v:AV} (hf:bI P f) (H:Holds P f args [] r []) (hg:eG ops ⟨n,t,m⟩ o=some true) (ho:o.op=pg fo xs gO)
  (mC:(⟨n,t,m⟩:St).ev fo=.db f fs cs) (Bz:oc ⟨n,t,m⟩ xs.toList=some uo) (pj:fs++uo++cs=gZ) (hL:mA [] m L) (fW:gP L [] gZ args) (hv:force r=some v) (hr:fp v=true) (mB:L≠[]→iU v=true) (hp:fX n t o.dst v=some t')
  (h:Go P ops draw Q l ⟨n,t',m⟩ (some ⟨v,[],L.map (·.1),[]⟩::acc)):Go P ops draw Q (o::l) ⟨n,t,m⟩ acc:=by
 obtain⟨fn,h1,h2,h3⟩:=hf;have IE:=force_eq hv;subst IE;exact eA hg (EA (M:=[]) (M':=[]) (L:=L) (W:=[]) (ρ:=[]) (σ:=[]) ho h1 h2 h3 mC (by rw [uc _ _ _ Bz];exact pj) H hL fW rfl rfl trivial rfl rfl trivial (ag r hr) rfl (fun eS=>⟨mB eS,trivial⟩)) rfl hp rfl h
variable{o:Oper} {s:St}
theorem acU (d t e:Nat) (p:Option Addr) (h:P.underlying t=some (.pointer e)) (w:World):(Op.equalIn (d+1) t (.pointer p) (.pointer none)).run P w=.ok p.isNone w:=by
 cases p<;>simp [Op.equalIn,run_underlying h]
theorem eq_nil (t e:Nat) (p:Option Addr) (h:P.underlying t=some (.pointer e)) (w:World):(Op.equal t (.pointer p) (.pointer none)).run P w=.ok p.isNone w:=acU 9999 t e p h w
theorem uq {op:BinOp} {t ty e b i off:Nat} {x y:Operand} {v:Bool} (ca:(op=.eql∧v=false)∨(op=.neq∧v=true)) (ho:o.op=.binOp op t x y ty) (ht:P.underlying t=some (.pointer e)) (hx:s.ev x=.ref b i off) (hy:s.ev y=.sc (.pointer none)):di P o s ⟨.sc (.bool v),[],[],[]⟩:=by
 intro s' _ PM _ _;refine gj fun c φ R a w hs=>?_
 have h1:=hs.ev x;rw [PM x (by simp [ho,Op.operands]),hx] at h1;have h2:=hs.ev y;rw [PM y (by simp [ho,Op.operands]),hy] at h2;have h2:=h2.gN;generalize hq:a.eval x=q at h1;cases h1 with
 |ref hb=>
  refine⟨.bool v,?_,.sc rfl⟩;rcases ca with⟨rfl,rfl⟩|⟨rfl,rfl⟩
  ·simp [execOp,ho,hq,h2,eqGuard,binOp,eq_nil t e _ ht]
  ·simp [execOp,ho,hq,h2,eqGuard,binOp,eq_nil t e _ ht]
theorem EW {op:BinOp} {t ty e:Nat} {x y:Operand} {v:Bool} (ca:(op=.eql∧v=true)∨(op=.neq∧v=false)) (ho:o.op=.binOp op t x y ty) (ht:P.underlying t=some (.pointer e)) (hx:s.ev x=.sc (.pointer none)) (hy:s.ev y=.sc (.pointer none)):di P o s ⟨.sc (.bool v),[],[],[]⟩:=by
 refine tN ho hx hy (fun w=>?_) (fun w=>?_) rfl
 ·rcases ca with⟨rfl,rfl⟩|⟨rfl,rfl⟩<;>rfl
 ·rcases ca with⟨rfl,rfl⟩|⟨rfl,rfl⟩<;>simp [binOp,eq_nil t e _ ht]
end
def nq {α:Type} (xs:List α) (lo hi:Int):Option (List α):=bif decide (0≤lo)&&(decide (lo≤hi)&&decide (hi≤(xs.length:Int))) then some ((xs.drop lo.toNat).take (hi.toNat -lo.toNat)) else none
theorem PN {α:Type} {xs ys:List α} {lo hi:Int} (h:nq xs lo hi=some ys):0≤lo∧lo≤hi∧hi≤xs.length∧ys=(xs.drop lo.toNat).take (hi.toNat -lo.toNat):=by
 unfold nq at h;obtain⟨h1,h2⟩:=ki h;simp only [Bool.and_eq_true,decide_eq_true_eq] at h1;exact⟨h1.1,h1.2.1,h1.2.2,(ae h2).symm⟩
theorem IZ {α:Type} {xs:List α} {lo hi:Int} (h0:0≤lo) (h1:lo≤hi) (h2:hi≤xs.length):nq xs lo hi=some ((xs.drop lo.toNat).take (hi.toNat -lo.toNat)):=by
 unfold nq;rw [decide_eq_true h0,decide_eq_true h1,decide_eq_true h2];rfl
def yz (s:ByteArray) (lo hi:Int):Option ByteArray:=bif decide (0≤lo)&&(decide (lo≤hi)&&decide (hi≤(s.size:Int))) then some (s.extract lo.toNat hi.toNat) else none
theorem acV {s t:ByteArray} {lo hi:Int} (h:yz s lo hi=some t):0≤lo∧lo≤hi∧hi≤s.size∧t=s.extract lo.toNat hi.toNat:=by
 unfold yz at h;obtain⟨h1,h2⟩:=ki h;simp only [Bool.and_eq_true,decide_eq_true_eq] at h1;exact⟨h1.1,h1.2.1,h1.2.2,(ae h2).symm⟩
section
variable{P:Program} {tt:TT} {o:Oper} {s:St}
theorem asn {x:Operand} {b i off:Nat} (ho:o.op=.nilCheck x) (hx:s.ev x=.ref b i off):di P o s ⟨.ref b i off,[],[],[]⟩:=by
 intro s' _ ca _ _;refine gj fun c φ R a w hs=>?_
 have h1:=hs.ev x;rw [ca x (by simp [ho,Op.operands]),hx] at h1;refine⟨a.eval x,?_,h1⟩;generalize hq:a.eval x=q at h1;cases h1 with
 |ref hb=>simp [execOp,ho,hq]
def pn (s:St) (x:Option Operand) (d v:Int):Prop:=match x with
 |none=>v=d
 |some x=>∃k,s.ev x=.sc (.int k v)
theorem vV {c:Ctx} {φ:Ph} {R:Nat→Prop} {s s':St} {a:Act} {w:World} (hs:cW c φ R s' a w) {x:Operand} {k:IntKind} {v:Int} (hx:s.ev x=.sc (.int k v)) (ca:s'.ev x=s.ev x):a.eval x=.int k v:=by
 have h1:=hs.ev x;rw [ca,hx] at h1;exact h1.gN
theorem PO (w:World) (k:IntKind) (i:Int) (y:Nat) (cd:BoundsCode) (h0:0≤i) (h1:i≤y):(Instr.sliceBound (.int k i) y cd).run P w=.ok i.toNat w:=by
 simp [Instr.sliceBound,asIntOf,h0,h1]
theorem EX (w:World) (b:Bool) (len cap:Nat) (lo hi:Option Value) (l h:Int) (jX:match lo with|none=>l=0|some v=>∃k,v=.int k l) (iW:match hi with|none=>h=len|some v=>∃k,v=.int k h)
  (h0:0≤l) (h1:l≤h) (h2:h≤len) (h3:len≤cap):(Instr.sliceBounds b len cap lo hi none).run P w=.ok (l.toNat,h.toNat,cap) w:=by
 have e1:∀cd,(match hi with|some v=>Instr.sliceBound v cap cd|none=>pure len:Sem Nat).run P w=.ok h.toNat w:=by
  intro cd;cases hi with
  |none=>simp at iW;subst iW;simp
  |some v=>obtain⟨k,rfl⟩:=iW;exact PO w k h cap cd (by omega) (by omega)
 have e2:∀cd,(match lo with|some v=>Instr.sliceBound v h.toNat cd|none=>pure 0:Sem Nat).run P w=.ok l.toNat w:=by
  intro cd;cases lo with
  |none=>simp at jX;subst jX;simp
  |some v=>obtain⟨k,rfl⟩:=jX;exact PO w k l h.toNat cd h0 (by omega)
 unfold Instr.sliceBounds;cases hi with
 |none=>
  cases lo with
  |none=>simp at jX iW;subst jX;subst iW;simp
  |some v=>
   have:=e2 .sliceB;simp at iW;subst iW;simp only [Int.toNat_natCast] at this;simp [this]
 |some u=>
  have k1:=e1 (if b then .sliceAcap else .sliceAlen)
  cases lo with
  |none=>simp at jX;subst jX;simp [k1]
  |some v=>
   have:=e2 .sliceB;simp [k1,this]
theorem acW {t:Nat} {x:Operand} {lo hi:Option Operand} {D:af} {st u:ByteArray} {l h:Int} (ho:o.op=.slice t x lo hi none) (hD:aF P t=some D) (hk:D.k=.str) (hx:s.ev x=.sc (.string st)) (jX:pn s lo 0 l) (iW:pn s hi st.size h) (hu:yz st l h=some u):
  di P o s ⟨.sc (.string u),[],[],[]⟩:=by
 obtain⟨_,_,ud,_,_,lD,_,_,_,_,fB⟩:=kB hD;rw [hk] at fB;have:ud=.string:=by cases ud<;>simp [kindOf] at fB<;>rfl
 subst this;obtain⟨h0,h1,h2,rfl⟩:=acV hu;intro s' _ ca _ _;refine gj fun c φ R a w hs=>⟨.string (st.extract l.toNat h.toNat),?_,.sc rfl⟩
 have e:=hs.ev x;rw [ca x (by simp [ho,Op.operands]),hx] at e;have e:=e.gN
 have hb:=EX (P:=P) w false st.size st.size (lo.map a.eval) (hi.map a.eval) l h (by
  cases lo with
  |none=>exact jX
  |some y=>
   obtain⟨k,hk⟩:=jX;exact⟨k,vV hs hk (ca y (by simp [ho,Op.operands]))⟩) (by
  cases hi with
  |none=>exact iW
  |some y=>
   obtain⟨k,hk⟩:=iW;exact⟨k,vV hs hk (ca y (by cases lo<;>simp [ho,Op.operands]))⟩) h0 h1 h2 (Nat.le_refl _)
 simp [execOp,ho,e,Instr.sliceAt,Instr.slice,run_underlying lD w,hb]
theorem acX {t e:Nat} {x:Operand} {lo hi:Option Operand} {D E:af} {xs ys:List AV} {l h:Int} (ho:o.op=.slice t x lo hi none) (hD:aF P t=some D) (hk:D.k=.slice e) (hE:aF P e=some E) (iM:∀x∈xs,x.cells.length=E.size) (hx:s.ev x=.sl xs) (jX:pn s lo 0 l) (iW:pn s hi xs.length h) (hu:nq xs l h=some ys):
  di P o s ⟨.sl ys,[],[],[]⟩:=by
 have lD:=o_ hD hk;obtain⟨h0,h1,h2,rfl⟩:=PN hu;intro s' _ ca _ _;refine gj fun c φ R a w hs=>?_
 have e0:=hs.ev x;rw [ca x (by simp [ho,Op.operands]),hx] at e0;generalize hq:a.eval x=q at e0
 have hb:∀len cap:Nat,len=xs.length→len≤cap→(Instr.sliceBounds true len cap (lo.map a.eval) (hi.map a.eval) none).run P w=.ok (l.toNat,h.toNat,cap) w:=fun len cap hl hc=>EX (P:=P) w true len cap (lo.map a.eval) (hi.map a.eval) l h (by
  cases lo with
  |none=>exact jX
  |some y=>
   obtain⟨k,hk⟩:=jX;exact⟨k,vV hs hk (ca y (by simp [ho,Op.operands]))⟩) (by
  subst hl;cases hi with
  |none=>exact iW
  |some y=>
   obtain⟨k,hk⟩:=iW;exact⟨k,vV hs hk (ca y (by cases lo<;>simp [ho,Op.operands]))⟩) h0 h1 (by rw [hl];exact h2) hc
 cases e0 with
 |@jU _ ad cap=>
  have z1:l=0:=by simp at h2;omega
  have z2:h=0:=by simp at h2;omega
  subst z1 z2;refine⟨.slice (if cap=0 then ad else ad.map (·.add (0*E.size))) 0 cap,?_,by simp;exact .jU⟩
  simp [execOp,ho,hq,Instr.sliceAt,Instr.slice,run_underlying lD w,hb 0 cap rfl (Nat.zero_le _),run_sizeOf hE w]
 |@sl _ _ b off cap ez f he hR lY hl hc hr=>
  refine⟨.slice (if cap=l.toNat then some ⟨b,off,none⟩ else some (⟨b,off+l.toNat*E.size,none⟩)) (h.toNat -l.toNat) (cap -l.toNat),?_,?_⟩
  ·simp only [execOp,ho,hq,Instr.sliceAt,Instr.slice];simp [run_underlying lD w,hb _ cap rfl lY,run_sizeOf hE w,qP]
  ·by_cases hz:h.toNat=l.toNat
   ·rw [hz];simp;exact .jU
   ·have cn:l.toNat<h.toNat:=by omega
    have eS:cap≠l.toNat:=by omega
    rw [if_neg eS];have PK:xs≠[]:=by intro hh;subst hh;simp at h2;omega
    have jF:ez=E.size:=by
     cases xs with
     |nil=>exact absurd rfl PK
     |cons y ys=>rw [←hl 0 y rfl,iM y (by simp)]
    subst jF;have hlen:((xs.drop l.toNat).take (h.toNat -l.toNat)).length=h.toNat -l.toNat:=by simp;omega
    have:=Rel.sl (w:=w) (R:=R) (φ:=φ) (xs:=(xs.drop l.toNat).take (h.toNat -l.toNat)) (b:=b) (o:=off+l.toNat*E.size) (cap:=cap -l.toNat) (e:=E.size) (fun k=>f (l.toNat*E.size+k)) he hR (by rw [hlen];omega) (by
     intro i y hy;rw [List.getElem?_take] at hy;split at hy
     ·rw [List.getElem?_drop] at hy;exact hl _ y hy
     ·cases hy) (by
     intro k hk;rw [hlen] at hk
     have:l.toNat*E.size+k<xs.length*E.size:=by
      have h3:h.toNat≤xs.length:=by omega
      calc l.toNat*E.size+k<l.toNat*E.size+(h.toNat -l.toNat)*E.size:=by omega
       _=h.toNat*E.size:=by rw [←Nat.add_mul];congr 1;omega
       _≤xs.length*E.size:=Nat.mul_le_mul_right _ h3
     rw [Nat.add_assoc];exact hc _ this) (by
     intro i y j cc hy hj;rw [List.getElem?_take] at hy;split at hy
     ·rw [List.getElem?_drop] at hy;have:=hr _ y j cc hy hj;rw [Nat.add_mul,Nat.add_assoc] at this;exact this
     ·cases hy)
    rw [hlen] at this;exact this
end
section
variable{P:Program} {tt:TT} {n:Nat} {t:List (Nat×AV)} {m:Mem} {ops:Array Oper} {draw:Bool} {Q:St→Prop} {acc:List (Option ec)} {l:List Oper}
theorem acY {o:Oper} {ty:Nat} {t':List (Nat×AV)} {x:Operand} {lo hi:Option Operand} {D:af} (s u:ByteArray) (a b:Int) (hu:yz s a b=some u) (ht:fK P tt) (hg:eG ops ⟨n,t,m⟩ o=some true) (ho:o.op=.slice ty x lo hi none) (hD:lk ty tt=some D) (hk:D.k=.str)
  (hx:(⟨n,t,m⟩:St).ev x=.sc (.string s)) (jX:pn ⟨n,t,m⟩ lo 0 a) (iW:pn ⟨n,t,m⟩ hi s.size b) (hp:fX n t o.dst (.sc (.string u))=some t')
  (h:Go P ops draw Q l ⟨n,t',m⟩ (some ⟨.sc (.string u),[],[],[]⟩::acc)):Go P ops draw Q (o::l) ⟨n,t,m⟩ acc:=
 eA hg (acW ho (ht _ _ hD) hk hx jX iW hu) rfl hp rfl h
theorem I0 {α:Type} {o:Oper} {ty e:Nat} {t':List (Nat×AV)} {x:Operand} {lo hi:Option Operand} {D E:af} (enc:α→AV) (xs ys:List α) (a b:Int) (hu:nq xs a b=some ys) (iM:∀x,(enc x).cells.length=E.size) (ht:fK P tt) (hg:eG ops ⟨n,t,m⟩ o=some true) (ho:o.op=.slice ty x lo hi none) (hD:lk ty tt=some D) (hk:D.k=.slice e) (hE:lk e tt=some E)
  (hx:(⟨n,t,m⟩:St).ev x=.sl (xs.map enc)) (jX:pn ⟨n,t,m⟩ lo 0 a) (iW:pn ⟨n,t,m⟩ hi xs.length b) (hp:fX n t o.dst (.sl (ys.map enc))=some t')
  (h:Go P ops draw Q l ⟨n,t',m⟩ (some ⟨.sl (ys.map enc),[],[],[]⟩::acc)):Go P ops draw Q (o::l) ⟨n,t,m⟩ acc:=by
 obtain⟨h0,h1,h2,rfl⟩:=PN hu;refine eA hg (acX (P:=P) (s:=⟨n,t,m⟩) (l:=a) (h:=b) ho (ht _ _ hD) hk (ht _ _ hE) (by simpa using fun x _=>iM x) hx jX (by rw [List.length_map];exact iW) ?_) rfl hp rfl h;rw [IZ h0 h1 (by simpa using h2)];simp [List.map_take,List.map_drop]
end
section
variable{P:Program} {o:Oper} {s:St}
theorem cW.EY {c:Ctx} {φ:Ph} {R:Nat→Prop} {s:St} {a:Act} {w w':World} (h:cW c φ R s a w) {b:Nat} {k:fc} {x:Home} (hb:lk b s.m=some (some k)) (hx:φ b=some (some x))
  (hos:w'.os=w.os) (ac0:w'.tape=w.tape) (ac1:w'.output=w.output) (vw:w.drawn≤w'.drawn) (ed:w'.heap.size=w.heap.size) (iK:∀n,n≠x.cY→w'.heap[n]?=w.heap[n]?):cW c φ R {s with m:=(b,none)::s.m} a w':=by
 have lC:=h.m.ga b k x hb hx;have hw:∀n,R n→w'.heap[n]?=w.heap[n]?:=fun n hn=>iK n (fun e=>lC (e▸hn))
 have f:∀b1 k1,lk b1 ((b,none)::s.m)=some (some k1)→b1≠b∧lk b1 s.m=some (some k1):=by
  intro b1 k1 h1;rw [eo] at h1;split at h1
  ·cases h1
  ·rename_i eS;exact⟨eS,h1⟩
 refine⟨h.n,fun t av ht=>(h.t t av ht).mono hw (fun _ h=>h) (fun _ _ h=>h),⟨?_,fun b1 b2 k1 k2 y1 y2 h1 h2=>h.m.inj b1 b2 k1 k2 y1 y2 (f _ _ h1).2 (f _ _ h2).2,fun b1 k1 y h1=>h.m.ga b1 k1 y (f _ _ h1).2,h.m.gl.mono hw (fun _ h=>h)⟩,?_,fun b1 k1 y h1=>h.fresh b1 k1 y (f _ _ h1).2,h.R0,h.Rn,fun n hn=>by rw [ed];exact h.Rb n hn,?_,h.d,h.gi⟩
 ·intro b1 k1 h1;obtain⟨eS,h1⟩:=f b1 k1 h1;obtain⟨oh,ho,hr⟩:=h.m.rel b1 k1 h1;refine⟨oh,ho,hr.mono hw (fun y hy=>iK _ (fun e=>eS ?_)) (fun _ _ h=>h)⟩;subst hy;exact h.m.inj b1 b k1 k y x h1 hb ho hx e
 ·intro b1 y hy;obtain⟨z,hz⟩:=h.gM b1 y hy;rw [eo];split
  ·exact⟨_,rfl⟩
  ·exact⟨z,hz⟩
 ·refine h.ext.trans (G':=fun i=>i=x.cY) ⟨hos,ac0,ac1,vw,by omega,fun i _ hi=>iK i hi⟩ (fun i hi e=>?_);rcases h.fresh b k x hb hx with hf|hf
  ·omega
  ·rw [e];exact hf
end
section
variable{P:Program} {tt:TT} {n:Nat} {t:List (Nat×AV)} {m:Mem} {ops:Array Oper} {draw:Bool} {Q:St→Prop} {acc:List (Option ec)} {l:List Oper}
end
section
variable{P:Program} {o:Oper} {s:St}
theorem ac2 (w:World) {t e:Nat} {k:IntKind} {E:af} (hu:P.underlying t=some (.array 2 e)) (hE:aF P e=some E) (hk:E.k=.int k) (hz:E.size=1) (a b c d:Int) (q:Nat):
  (Op.equalIn (q+2) t (.agg #[.int k a,.int k b]) (.agg #[.int k c,.int k d])).run P w=.ok (a==c&&(b==d&&true)) w:=by
 have I1:=HG hE hk;obtain⟨i,z,u,hi,_,_,ed,_,_,_,_⟩:=kB hE
 have hce:P.cellsOf e=1:=by
  have:P.cellsOf e=i.size:=by simp [Program.cellsOf,hi]
  rw [this,ed,hz]
 rw [run_equalIn_array w (q+1) _ _ hu hi,hce]
 have p:∀(xs:Array Value) (j:Nat) (v:Value),xs[j]?=some v→(part e xs (j*1)).run P w=.ok v w:=by
  intro xs j v hv;simp [part,isAgg,run_underlying I1,hv]
 have hr:List.range 2=[0,1]:=rfl;rw [hr];have p0:=p #[.int k a,.int k b] 0 (.int k a) rfl;have p1:=p #[.int k a,.int k b] 1 (.int k b) rfl;have q0:=p #[.int k c,.int k d] 0 (.int k c) rfl;have q1:=p #[.int k c,.int k d] 1 (.int k d) rfl;have e0:=run_equalIn_int w q e k _ a c I1;have e1:=run_equalIn_int w q e k _ b d I1;simp only [Op.eqItems,Sem.run_bind,p0,q0,p1,q1,Result.andThen_ok,e0,e1];rw [Nat.mul_one] at p1 q1;cases h1:(a==c)<;>cases h2:(b==d)<;>simp [p1,q1,e1,h2]
theorem EZ {t ty e:Nat} {x y:Operand} {k:IntKind} {E:af} {a b c d:Int} (hu:P.underlying t=some (.array 2 e)) (hE:aF P e=some E) (hk:E.k=.int k) (hz:E.size=1) (hm:P.eqGuardType P.depth t=false) (ho:o.op=.binOp .neq t x y ty)
  (hx:s.ev x=.agg [.sc (.int k a),.sc (.int k b)]) (hy:s.ev y=.agg [.sc (.int k c),.sc (.int k d)]):di P o s ⟨.sc (.bool (!(a==c&&(b==d&&true)))),[],[],[]⟩:=by
 intro s' _ ca _ _;refine gj fun cc φ R ac w hs=>⟨.bool (!(a==c&&(b==d&&true))),?_,.sc rfl⟩
 have g1:=hs.ev x;rw [ca x (by simp [ho,Op.operands]),hx] at g1;have g1:=Rel.yu (c:=[.int k a,.int k b]) g1;have g2:=hs.ev y;rw [ca y (by simp [ho,Op.operands]),hy] at g2;have g2:=Rel.yu (c:=[.int k c,.int k d]) g2;have gn:=ac2 (P:=P) w hu hE hk hz a b c d 9998;simp [execOp,ho,g1,g2,run_eqGuard_agg w .neq t x y _ _ hm,binOp,Op.equal,Op.maxDepth,gn]
end
end Go.Ab
namespace Go.Ab
open Go.RowKit Go.MapKept
section
variable{P:Program} {o:Oper} {s:St}
variable{lim:Nat}
theorem E0 {ops:Array Oper} {Q:Exit→Act→World→Prop} {c:Ctx} {K:St→Prop} {js:List Nat} (hK:∀s a w,K s→dJ c s a w→wpOps P ops Q js a w):∀(l:List Item) (s:St) (a:Act) (w:World),(∀x∈l,ops[x.i]?=some x.o)→iq P ops K l s→dJ c s a w→wpOps P ops Q (l.map (·.i)++js) a w
 |[],s,a,w,_,h,hs=>hK s a w h hs
 |x::l,s,a,w,hi,h,hs=>by
  rw [List.map_cons,List.cons_append,wpOps_cons];exact HX (hi x (by simp)) h.1 hs (fun a' w' cJ=>E0 hK l _ a' w' (fun y hy=>hi y (by simp [hy])) h.2 cJ)
theorem ac4 {ops:Array Oper} {Q:Exit→Act→World→Prop} {c:Ctx} {K:Act→World→Prop} {i:Nat} {a:Act} {w:World} (hi:ops[i]?=some o) (hg:o.guard=none) (hs:dJ c s a w) (h:o.wp P a w K Q):wpOp P ops Q i K a w:=by
 obtain⟨φ,R,dz⟩:=hs;have hgc:eG ops s o=some true:=by simp [eG,hg]
 unfold wpOp;simp only [hi];rw [HR dz hgc];simp only [if_true];exact .inl h
end
end Go.Ab
namespace Go.Ab
open Go.RowKit
section
variable{P:Program} {o:Oper} {s:St}
theorem ac6 {v:AV} {wr:Mem} {acc nw:List Nat} (h:di P o s ⟨v,wr,acc,nw⟩) (jE:nw=[]) (hw:∀b x,lk b wr=some x→b∈acc∧lk b s.m=some x):di P o s ⟨v,[],acc,[]⟩:=by
 subst jE;intro s' hn ca gk _;have h1:=h s' hn ca gk (by simp);intro c a w next Q hs ub
 refine h1 c a w next Q hs fun a' w' cJ=>ub a' w' ?_
 obtain⟨φ,R,q⟩:=cJ;have hS:jw (s'.app o.dst ⟨v,wr,acc,[]⟩) (s'.app o.dst ⟨v,[],acc,[]⟩):=⟨rfl,fun _=>rfl,fun b=>?_⟩
 ·exact⟨φ,R,hS.HS q⟩
 show lk b (wr++s'.m)=lk b ([]++s'.m)
 rw [qO,List.nil_append];cases hq:lk b wr with
 |none=>rfl
 |some x=>
  obtain⟨g1,g2⟩:=hw b x hq;rw [gk b g1,g2];rfl
def I2 (m:Mem):Mem→Prop
 |[]=>True
 |(b,x)::l=>lk b m=some x∧I2 m l
theorem PQ {m:Mem}:∀{W:Mem},I2 m W→∀b x,lk b W=some x→lk b m=some x
 |[],_,b,x,h=>by simp [lk] at h
 |(b',x')::l,hW,b,x,h=>by
  rw [eo] at h;split at h
  ·subst_vars;cases h;exact hW.1
  ·exact PQ hW.2 b x h
theorem PR {ρ:cZ}:∀{W:Mem},(W.all fun p=>(et ρ).contains p.1)=true→kM ρ W=[]
 |[],_=>rfl
 |(t,x)::l,h=>by
  rw [List.all_cons,Bool.and_eq_true] at h;simp only [kM,h.1];exact PR h.2
variable{tt:TT} {ops:Array Oper} {draw:Bool} {Q:St→Prop} {acc:List (Option ec)} {l:List Oper}
theorem yA {o:Oper} {n f:Nat} {t t':List (Nat×AV)} {m:Mem} {fo:Operand} {xs:Array Operand} {gO:Array TypeId} {fs cs uo gZ args:List AV} {M M':Mem} {r:AV} (v:AV) (L W:Mem) (ρ σ:cZ) (hf:bI P f) (H:Holds P f args M r M') (hg:eG ops ⟨n,t,m⟩ o=some true) (ho:o.op=pg fo xs gO)
  (mC:(⟨n,t,m⟩:St).ev fo=.db f fs cs) (Bz:oc ⟨n,t,m⟩ xs.toList=some uo) (pj:fs++uo++cs=gZ) (hL:mA ρ m L) (fW:gP L ρ gZ args) (hi:iV ρ=true) (hk:(ρ.all fun p=>(lk p.1 M).isSome)=true) (hM:eT ρ m M)
  (ni:iV σ=true) (pU:(σ.all fun p=>(lk p.1 W).isSome)=true) (hW:eT σ M' W) (hv:bX [] σ r v) (n4:vE ρ M σ W=true) (mB:L≠[]→iU v=true∧qT W) (E1:I2 m W) (sj:((et ρ).all fun b=>(lk b W).isSome)=true) (lF:(W.all fun p=>(et ρ).contains p.1)=true)
  (hp:fX n t o.dst v=some t') (h:Go P ops draw Q l ⟨n,t',m⟩ (some ⟨v,[],et ρ++L.map (·.1),[]⟩::acc)):Go P ops draw Q (o::l) ⟨n,t,m⟩ acc:=by
 obtain⟨fn,h1,h2,h3⟩:=hf;have hA:=EA (M:=M) (M':=M') (L:=L) (W:=W) (ρ:=ρ) (σ:=σ) (s:=⟨n,t,m⟩) ho h1 h2 h3 mC (by rw [uc _ _ _ Bz];exact pj) H hL fW hi hk hM ni pU hW hv n4 mB;refine eA hg (ac6 hA (PR lF) fun b x hb=>?_) rfl hp rfl h;rw [qO] at hb;cases hq:lk b W with
 |some y=>
  rw [hq] at hb;cases hb;have gG:=List.all_eq_true.1 lF _ (gI hq);exact⟨by simp at gG;simp [gG],PQ E1 b x hq⟩
 |none=>
  rw [hq] at hb;have ig:lk b (lG (et ρ))=some x:=hb;rw [O_] at ig;split at ig
  ·rename_i ac7;have:=List.all_eq_true.1 sj b ac7;rw [hq] at this;cases this
  ·cases ig
variable{lim:Nat}
theorem E2 {id:Nat} {Q:Exit→St→Prop} {l1 l2:List Oper} (k:Nat) (qY:ops.toList.take k=l1) (lj:ops.toList.drop k=l2)
  (h:Go P ops false (fun s1=>∃s2,Bu s1 s2∧Go P ops false (Q .normal) l2 s2 []) l1 s []):dW P lim (.region id ops false) Q s:=by
 intro c ep a w hs;have BA:ops.toList=l1++l2:=by rw [←qY,←lj,List.take_append_drop]
 have ed:ops.size=l1.length+l2.length:=by rw [←Array.length_toList,BA];simp
 have k_:∀i,ops[i]?=(l1++l2)[i]?:=fun i=>by rw [←BA,Array.getElem?_toList]
 obtain⟨rr,h1,_,h3⟩:=h;obtain⟨i1,i2⟩:=vu l1 rr 0 h1.symm;refine wp_region ?_
 have:=E0 (P:=P) (js:=(List.range l2.length).map (l1.length+·)) (Q:=fun e a' w'=>∃s',dJ c s' a' w'∧Q e s') (ops:=ops) (c:=c) (fun s1 a1 w1 hq dL=>?_) (items 0 l1 rr) s a w (fun x hx=>by
  obtain⟨g1,g2⟩:=i2 x hx;rw [Nat.sub_zero] at g2;rw [k_,List.getElem?_append_left (List.getElem?_eq_some_iff.1 g2).1];exact g2) (h3 0) hs
 ·rw [i1] at this;rw [ed,List.range_add];simpa using this
 ·obtain⟨s2,hw,PS,k1,_,k3⟩:=hq;obtain⟨j1,j2⟩:=vu l2 PS l1.length k1.symm
  have:=E0 (P:=P) (js:=[]) (Q:=fun e a' w'=>∃s',dJ c s' a' w'∧Q e s') (K:=Q .normal) (ops:=ops) (c:=c) (fun s a w hq hs=>⟨s,hs,hq⟩) (items l1.length l2 PS) s2 a1 w1 (fun x hx=>by
   obtain⟨g1,g2⟩:=j2 x hx;rw [k_,List.getElem?_append_right g1];exact g2) (k3 l1.length) (dL.freeze hw)
  rw [j1,List.append_nil] at this;exact this
theorem E3 {G:St→Prop} {n:Nat} {t:List (Nat×AV)} {m:Mem} (K KB:List Nat) (L:Mem) (ρ:cZ) (mt:List (Nat×AV)) (mm:Mem) {kt:List (Nat×AV)} {km:Mem} (hk:sd t K=some kt) (IU:se m KB=some km) (hr:pe ρ (mm++km)=true) (ht:yo ρ kt=true) (hm:yp ρ km=true)
  (hL:mA ρ m L) (IV:qW L ρ ⟨n,t,m⟩ mt) (IW:nk L ρ m mm) (h:G ⟨n,mt++kt,mm++km⟩):∃s2,Bu ⟨n,t,m⟩ s2∧G s2:=
 ⟨⟨n,mt++kt,mm++km⟩,⟨L,ρ,rfl,hr,hL,IP IV (IS (vM hk ht)),IQ IW (IT (vN IU hm))⟩,h⟩
theorem ac8 {t e b len:Nat} {x:Operand} {lo hi:Option Operand} {D E:af} {k:fc} {l h:Int} (ho:o.op=.slice t x lo hi none) (hD:aF P t=some D) (hk:D.k=.slice e) (hE:aF P e=some E) (hx:s.ev x=.arr b 0 len) (hb:lk b s.m=some (some k)) (jF:k.cy=E.size) (jX:pn s lo 0 l) (iW:pn s hi len h) (h0:0≤l) (h1:l<len) (h2:l≤h) (h3:h≤len):
  di P o s ⟨.arr b l.toNat (h.toNat -l.toNat),[],[b],[]⟩:=by
 have lD:=o_ hD hk;intro s' _ ca gk _;refine gj fun c φ R a w hs=>?_
 have e0:=hs.ev x;rw [ca x (by simp [ho,Op.operands]),hx] at e0;generalize hq:a.eval x=q at e0;cases e0 with
 |kA=>omega
 |@arr _ _ _ _ cap hm gF lE tR=>
  obtain⟨oh,gm,hr⟩:=hs.m.rel b k (by rw [gk b (by simp)];exact hb);rw [gF] at gm;cases gm;have AW:E.size=hm.cy:=by rw [←hr.1,jF]
  have E4:=EX (P:=P) w true len cap (lo.map a.eval) (hi.map a.eval) l h (by
   cases lo with
   |none=>exact jX
   |some y=>
    obtain⟨k,hk⟩:=jX;exact⟨k,vV hs hk (ca y (by simp [ho,Op.operands]))⟩) (by
   cases hi with
   |none=>exact iW
   |some y=>
    obtain⟨k,hk⟩:=iW;exact⟨k,vV hs hk (ca y (by cases lo<;>simp [ho,Op.operands]))⟩) h0 h2 (by omega) lE
  have eS:cap≠l.toNat:=by omega
  refine⟨.slice (some ⟨hm.cY,l.toNat*hm.cy,none⟩) (h.toNat -l.toNat) (cap -l.toNat),?_,.arr gF (by omega) (by omega)⟩;simp only [execOp,ho,hq,Instr.sliceAt,Instr.slice];simp [run_underlying lD w,E4,run_sizeOf hE w,qP,eS,AW]
theorem ac9 {α:Type} (xs ys:List α) (off K i:Nat) (h1:off+K≤xs.length) (h2:K≤ys.length):(xs.take off++ys.take K++xs.drop (off+K))[i]?=if off≤i∧i<off+K then ys[i -off]?else xs[i]?:=by
 have l1:(xs.take off).length=off:=by simp;omega
 have l2:(ys.take K).length=K:=by simp;omega
 by_cases hi:i<off
 ·rw [List.append_assoc,List.getElem?_append_left (by omega),List.getElem?_take,if_pos hi,if_neg (by omega)]
 ·by_cases hj:i<off+K
  ·rw [List.getElem?_append_left (by simp;omega),List.getElem?_append_right (by omega),l1,List.getElem?_take,if_pos (by omega),if_pos (by omega)]
  ·rw [List.getElem?_append_right (by simp;omega),if_neg (by omega),List.getElem?_drop];congr 1;simp;omega
variable{n:Nat} {t:List (Nat×AV)} {m:Mem}
theorem PT {o:Oper} {ty e b len bt bz:Nat} {t':List (Nat×AV)} {x:Operand} {lo hi:Option Operand} {D E:af} {xs:List AV} (a c:Int) (hc:(decide (0≤a)&&(decide (a<(len:Int))&&(decide (a≤c)&&decide (c≤(len:Int)))))=true) (ht:fK P tt) (hg:eG ops ⟨n,t,m⟩ o=some true) (ho:o.op=.slice ty x lo hi none) (hD:lk ty tt=some D) (hk:D.k=.slice e) (hE:lk e tt=some E)
  (hx:(⟨n,t,m⟩:St).ev x=.arr b 0 len) (hb:lk b m=some (some ⟨bt,bz,xs⟩)) (hz:Nat.beq bz E.size=true) (jX:pn ⟨n,t,m⟩ lo 0 a) (iW:pn ⟨n,t,m⟩ hi len c) (hp:fX n t o.dst (.arr b a.toNat (c.toNat -a.toNat))=some t')
  (h:Go P ops draw Q l ⟨n,t',m⟩ (some ⟨.arr b a.toNat (c.toNat -a.toNat),[],[b],[]⟩::acc)):Go P ops draw Q (o::l) ⟨n,t,m⟩ acc:=by
 simp only [Bool.and_eq_true,decide_eq_true_eq] at hc;exact eA hg (ac8 (P:=P) (s:=⟨n,t,m⟩) ho (ht _ _ hD) hk (ht _ _ hE) hx hb (Nat.eq_of_beq_eq_true hz) jX iW hc.1 hc.2.1 hc.2.2.1 hc.2.2.2) rfl hp rfl h
theorem PU {α:Type} {l:List α} {i:Int} {w:α} (h:aK l i=some w):0≤i∧i.toNat<l.length∧l[i.toNat]?=some w:=by
 cases i with
 |ofNat k=>
  have h':l[k]?=some w:=h;exact⟨Int.natCast_nonneg k,(List.getElem?_eq_some_iff.1 h').1,h'⟩
 |negSucc k=>cases h
theorem E5:∀(n:Nat) (cs:List AV),n≤cs.length→kL cs n=some (cs.drop n)
 |0,cs,h=>by simp [kL]
 |n+1,[],h=>by simp at h
 |n+1,c::cs,h=>by
  simp only [kL,List.drop_succ_cons];exact E5 n cs (by simpa using h)
theorem cW.ac_ {c:Ctx} {φ:Ph} {R:Nat→Prop} {n d:Nat} {t:List (Nat×AV)} {m:Mem} {k k':fc} {a:Act} {w:World} (h:cW c φ R ⟨n,t,(d,some k)::m⟩ a w) (hk:∀oh,iT w R φ oh k→iT w R φ oh k'):cW c φ R ⟨n,t,(d,some k')::m⟩ a w:=by
 have f:∀b x,lk b ((d,some k')::m)=some x→(b=d∧x=some k'∧lk b ((d,some k)::m)=some (some k))∨lk b ((d,some k)::m)=some x:=by
  intro b x hb;rw [eo] at hb⊢;by_cases e:b=d
  ·rw [if_pos e] at hb⊢;cases hb;exact .inl ⟨e,rfl,rfl⟩
  ·rw [if_neg e] at hb⊢;exact .inr hb
 have g:∀b k1,lk b ((d,some k')::m)=some (some k1)→∃k0,lk b ((d,some k)::m)=some (some k0):=by
  intro b k1 hb;rcases f b _ hb with⟨_,_,h3⟩|h3
  ·exact⟨_,h3⟩
  ·exact⟨_,h3⟩
 refine⟨h.n,h.t,⟨fun b k1 hb=>?_,fun b b' k1 k2 y y' hb ig=>?_,fun b k1 y hb=>?_,h.m.gl⟩,fun b x hx=>?_,fun b k1 y hb=>?_,h.R0,h.Rn,h.Rb,h.ext,h.d,h.gi⟩
 ·rcases f b _ hb with⟨_,h2,h3⟩|h3
  ·cases h2;obtain⟨oh,ho,hr⟩:=h.m.rel b k h3;exact⟨oh,ho,hk oh hr⟩
  ·exact h.m.rel b k1 h3
 ·obtain⟨k0,h0⟩:=g b k1 hb;obtain⟨k0',h0'⟩:=g b' k2 ig;exact h.m.inj b b' k0 k0' y y' h0 h0'
 ·obtain⟨k0,h0⟩:=g b k1 hb;exact h.m.ga b k0 y h0
 ·obtain⟨y,hy⟩:=h.gM b x hx;have kK:lk b ((d,some k)::m)=some y:=hy;show∃y,lk b ((d,some k')::m)=some y
  rw [eo] at kK⊢;by_cases e:b=d
  ·rw [if_pos e];exact⟨_,rfl⟩
  ·rw [if_neg e] at kK⊢;exact⟨y,kK⟩
 ·obtain⟨k0,h0⟩:=g b k1 hb;exact h.fresh b k0 y h0
theorem adb {v:AV} {d:Nat} {k k':fc} {ac nw:List Nat} (h:di P o s ⟨v,[(d,some k)],ac,nw⟩) (hk:∀(w:World) (R:Nat→Prop) (φ:Ph) oh,iT w R φ oh k→iT w R φ oh k'):di P o s ⟨v,[(d,some k')],ac,nw⟩:=by
 intro s' hn ca gk jE c a w next Q hs ub
 refine h s' hn ca gk jE c a w next Q hs fun a' w' cJ=>ub a' w' ?_
 obtain⟨φ,R,q⟩:=cJ;exact⟨φ,R,cW.ac_ q (hk w' R φ)⟩
end
end Go.Ab
set_option maxRecDepth 20000
namespace Go.Proofs.YtccnpbnokndeeaaGreatDoor
open Go Go.Ab
abbrev I (n:Int):AV:=.sc (.int .i64 n)
abbrev B (b:Bool):AV:=.sc (.bool b)
abbrev S (s:ByteArray):AV:=.sc (.string s)
def PV:af:=af.mk aL.base 1 8 (AV.sc Value.nilFunc)
def um:af:=af.mk (aL.int IntKind.i64) 1 8 (I 0)
def PW:af:=af.mk (aL.int IntKind.i64) 1 8 (I 0)
def PX:af:=af.mk aL.bool 1 1 (B false)
def PY:af:=af.mk (aL.int IntKind.u8) 1 1 (AV.sc (Value.int IntKind.u8 0))
def PZ:af:=af.mk aL.str 1 16 (S ⟨#[]⟩)
def P0:af:=af.mk (aL.int IntKind.u64) 1 8 (AV.sc (Value.int IntKind.u64 0))
def P1:af:=af.mk (aL.int IntKind.i32) 1 4 (AV.sc (Value.int IntKind.i32 0))
def P2:af:=af.mk (aL.slice 92) 1 24 AV.b9
def P3:af:=af.mk (aL.slice 107) 1 24 AV.b9
def P4:af:=af.mk (aL.struct [(0,1),(1,1)]) 2 48 (AV.agg [AV.b9,AV.b9])
def P5:af:=af.mk (aL.struct [(0,1),(1,1)]) 2 48 (AV.agg [AV.b9,AV.b9])
def P6:af:=af.mk (aL.slice 72) 1 24 AV.b9
def P7:af:=af.mk (aL.struct [(0,1),(1,1),(2,1),(3,1)]) 4 32 (AV.agg [I 0,I 0,I 0,I 0])
def P8:af:=af.mk (aL.struct [(0,1),(1,1),(2,1),(3,1)]) 4 32 (AV.agg [I 0,I 0,I 0,I 0])
def P9:af:=af.mk (aL.struct [(0,1),(1,1),(2,1)]) 3 24 (AV.agg [I 0,I 0,I 0])
def Qa:af:=af.mk (aL.struct [(0,1),(1,1),(2,1)]) 3 24 (AV.agg [I 0,I 0,I 0])
def Qb:af:=af.mk (aL.struct [(0,2),(2,1),(3,4),(7,3),(10,1),(11,1)]) 12 144 (AV.agg [AV.b9,AV.b9,AV.b9,I 0,I 0,I 0,I 0,I 0,I 0,I 0,I 0,I 0])
def Qc:af:=af.mk (aL.struct [(0,2),(2,1),(3,4),(7,3),(10,1),(11,1)]) 12 144 (AV.agg [AV.b9,AV.b9,AV.b9,I 0,I 0,I 0,I 0,I 0,I 0,I 0,I 0,I 0])
def Qd:af:=af.mk (aL.struct [(0,1),(1,1)]) 2 16 (AV.agg [I 0,I 0])
def Qe:af:=af.mk (aL.struct [(0,1),(1,1)]) 2 16 (AV.agg [I 0,I 0])
def Qf:af:=af.mk (aL.struct [(0,2),(2,2)]) 4 32 (AV.agg [I 0,I 0,I 0,I 0])
def Qg:af:=af.mk (aL.struct [(0,2),(2,2)]) 4 32 (AV.agg [I 0,I 0,I 0,I 0])
def Qh:af:=af.mk (aL.slice 99) 1 24 AV.b9
def Qi:af:=af.mk (aL.struct [(0,4),(4,1)]) 5 56 (AV.agg [I 0,I 0,I 0,I 0,AV.b9])
def Qj:af:=af.mk (aL.struct [(0,4),(4,1)]) 5 56 (AV.agg [I 0,I 0,I 0,I 0,AV.b9])
def Qk:af:=af.mk (aL.slice 3) 1 24 AV.b9
def Ql:af:=af.mk aL.base 1 8 (AV.sc Value.nilFunc)
def Qm:af:=af.mk aL.base 1 8 (AV.sc Value.nilFunc)
def Qn:af:=af.mk (aL.slice 140) 1 24 AV.b9
def Qo:af:=af.mk (aL.int IntKind.i64) 1 8 (I 0)
def Qp:af:=af.mk aL.base 1 8 (AV.sc Value.nilFunc)
def Qq:af:=af.mk aL.base 1 8 (AV.sc (Value.pointer none))
def Qr:af:=af.mk aL.base 1 8 (AV.sc Value.nilFunc)
def Qs:af:=af.mk (aL.struct [(0,1),(1,1),(2,1),(3,1),(4,1),(5,1),(6,1),(7,1),(8,1),(9,1),(10,1),(11,1),(12,1)]) 13 112 (AV.agg [S ⟨#[]⟩,I 0,I 0,I 0,I 0,I 0,I 0,I 0,I 0,I 0,I 0,I 0,I 0])
def Qt:af:=af.mk (aL.struct [(0,1),(1,1),(2,1),(3,1),(4,1),(5,1),(6,1),(7,1),(8,1),(9,1),(10,1),(11,1),(12,1)]) 13 112 (AV.agg [S ⟨#[]⟩,I 0,I 0,I 0,I 0,I 0,I 0,I 0,I 0,I 0,I 0,I 0,I 0])
def Qu:af:=af.mk aL.base 1 8 (AV.sc Value.nilFunc)
def Qv:af:=af.mk aL.base 1 8 (AV.sc Value.nilFunc)
def Qw:af:=af.mk (aL.struct [(0,1),(1,1),(2,1),(3,1),(4,1)]) 5 40 (AV.agg [I 0,I 0,I 0,I 0,I 0])
def Qx:af:=af.mk (aL.struct [(0,1),(1,1),(2,1),(3,1),(4,1)]) 5 40 (AV.agg [I 0,I 0,I 0,I 0,I 0])
def Qy:af:=af.mk aL.base 1 8 (AV.sc Value.nilFunc)
def Qz:af:=af.mk (aL.slice 68) 1 24 AV.b9
def QA:af:=af.mk aL.base 1 8 (AV.sc Value.nilFunc)
def QB:af:=af.mk (aL.struct [(0,2),(2,2),(4,2)]) 6 48 (AV.agg [I 0,I 0,I 0,I 0,I 0,I 0])
def QC:af:=af.mk (aL.struct [(0,2),(2,2),(4,2)]) 6 48 (AV.agg [I 0,I 0,I 0,I 0,I 0,I 0])
def QD:af:=af.mk (aL.struct [(0,1),(1,1),(2,1)]) 3 24 (AV.agg [I 0,I 0,I 0])
def QE:af:=af.mk (aL.struct [(0,1),(1,1),(2,1)]) 3 24 (AV.agg [I 0,I 0,I 0])
def QF:af:=af.mk (aL.struct [(0,1),(1,1),(2,1),(3,1),(4,6),(10,1),(11,1),(12,1),(13,3),(16,1),(17,1)]) 18 184 (AV.agg [S ⟨#[]⟩,S ⟨#[]⟩,S ⟨#[]⟩,I 0,I 0,I 0,I 0,I 0,I 0,I 0,I 0,AV.b9,I 0,I 0,I 0,I 0,B false,I 0])
def QG:af:=af.mk (aL.struct [(0,1),(1,1),(2,1),(3,1),(4,6),(10,1),(11,1),(12,1),(13,3),(16,1),(17,1)]) 18 184 (AV.agg [S ⟨#[]⟩,S ⟨#[]⟩,S ⟨#[]⟩,I 0,I 0,I 0,I 0,I 0,I 0,I 0,I 0,AV.b9,I 0,I 0,I 0,I 0,B false,I 0])
def QH:af:=af.mk aL.base 1 8 (AV.sc Value.nilFunc)
def QI:af:=af.mk (aL.struct [(0,1),(1,1),(2,6),(8,1)]) 9 72 (AV.agg [I 0,I 0,I 0,I 0,I 0,I 0,I 0,I 0,I 0])
def QJ:af:=af.mk (aL.struct [(0,1),(1,1),(2,6),(8,1)]) 9 72 (AV.agg [I 0,I 0,I 0,I 0,I 0,I 0,I 0,I 0,I 0])
def QK:af:=af.mk aL.base 1 8 (AV.sc Value.nilFunc)
def QL:af:=af.mk aL.base 1 8 (AV.sc Value.nilFunc)
def QM:af:=af.mk (aL.struct [(0,1),(1,1),(2,1),(3,1),(4,1),(5,1),(6,1)]) 7 96 (AV.agg [S ⟨#[]⟩,I 0,I 0,I 0,I 0,AV.b9,AV.b9])
def QN:af:=af.mk (aL.struct [(0,1),(1,1),(2,1),(3,1),(4,1),(5,1),(6,1)]) 7 96 (AV.agg [S ⟨#[]⟩,I 0,I 0,I 0,I 0,AV.b9,AV.b9])
def QO:af:=af.mk aL.base 1 8 (AV.sc Value.nilFunc)
def QP:af:=af.mk aL.base 1 8 (AV.sc Value.nilFunc)
def QQ:af:=af.mk aL.base 1 8 (AV.sc Value.nilFunc)
def QR:af:=af.mk (aL.struct [(0,1),(1,5),(6,1)]) 7 72 (AV.agg [I 0,I 0,I 0,I 0,I 0,AV.b9,I 0])
def QS:af:=af.mk (aL.struct [(0,1),(1,5),(6,1)]) 7 72 (AV.agg [I 0,I 0,I 0,I 0,I 0,AV.b9,I 0])
def QT:af:=af.mk aL.base 1 8 (AV.sc Value.nilFunc)
def QU:af:=af.mk (aL.slice 77) 1 24 AV.b9
def QV:af:=af.mk aL.base 1 8 (AV.sc Value.nilFunc)
def QW:af:=af.mk (aL.struct [(0,1),(1,1),(2,1),(3,4),(7,3)]) 10 128 (AV.agg [AV.b9,AV.b9,AV.b9,I 0,I 0,I 0,I 0,I 0,I 0,I 0])
def QX:af:=af.mk (aL.struct [(0,1),(1,1),(2,1),(3,4),(7,3)]) 10 128 (AV.agg [AV.b9,AV.b9,AV.b9,I 0,I 0,I 0,I 0,I 0,I 0,I 0])
def QY:af:=af.mk aL.base 1 8 (AV.sc Value.nilFunc)
def QZ:af:=af.mk aL.base 1 8 (AV.sc Value.nilFunc)
def Q0:af:=af.mk aL.base 1 8 (AV.sc Value.nilFunc)
def Q1:af:=af.mk aL.base 1 8 (AV.sc Value.nilFunc)
def Q2:af:=af.mk (aL.slice 96) 1 24 AV.b9
def Q3:af:=af.mk (aL.struct [(0,1),(1,1)]) 2 32 (AV.agg [I 0,AV.b9])
def Q4:af:=af.mk (aL.struct [(0,1),(1,1)]) 2 32 (AV.agg [I 0,AV.b9])
def Q5:af:=af.mk (aL.struct [(0,1),(1,1)]) 2 16 (AV.agg [I 0,I 0])
def Q6:af:=af.mk (aL.struct [(0,1),(1,1)]) 2 16 (AV.agg [I 0,I 0])
def Q7:af:=af.mk (aL.struct [(0,2),(2,1)]) 3 24 (AV.agg [I 0,I 0,B false])
def Q8:af:=af.mk (aL.struct [(0,2),(2,1)]) 3 24 (AV.agg [I 0,I 0,B false])
def Q9:af:=af.mk aL.base 1 8 (AV.sc Value.nilFunc)
def Q_:af:=af.mk (aL.struct [(0,1),(1,1)]) 2 16 (AV.agg [I 0,I 0])
def Re:af:=af.mk (aL.struct [(0,1),(1,1)]) 2 16 (AV.agg [I 0,I 0])
def Rf:af:=af.mk aL.base 1 8 (AV.sc Value.nilFunc)
def Rg:af:=af.mk aL.base 1 8 (AV.sc Value.nilFunc)
def Rh:af:=af.mk aL.base 1 8 (AV.sc Value.nilFunc)
def Ri:af:=af.mk aL.base 1 8 (AV.sc Value.nilFunc)
def Rj:af:=af.mk aL.base 1 8 (AV.sc Value.nilFunc)
def Rk:af:=af.mk (aL.struct [(0,1),(1,6)]) 7 56 (AV.agg [I 0,I 0,I 0,I 0,I 0,I 0,I 0])
def Rl:af:=af.mk (aL.struct [(0,1),(1,6)]) 7 56 (AV.agg [I 0,I 0,I 0,I 0,I 0,I 0,I 0])
def Rm:af:=af.mk aL.base 1 8 (AV.sc Value.nilFunc)
def Ro:af:=af.mk (aL.slice 121) 1 24 AV.b9
def Rp:af:=af.mk aL.base 1 8 (AV.sc Value.nilFunc)
def Rq:af:=af.mk aL.base 1 8 (AV.sc Value.nilFunc)
def Rr:af:=af.mk aL.base 1 8 (AV.sc Value.nilFunc)
def Rt:af:=af.mk (aL.slice 119) 1 24 AV.b9
def Ru:af:=af.mk (aL.slice 36) 1 24 AV.b9
def Rv:af:=af.mk (aL.struct [(0,1),(1,1),(2,1),(3,4),(7,3),(10,1),(11,1),(12,1),(13,1)]) 14 208 (AV.agg [AV.b9,AV.b9,AV.b9,I 0,I 0,I 0,I 0,I 0,I 0,I 0,I 0,AV.b9,AV.b9,AV.b9])
def Rw:af:=af.mk (aL.struct [(0,1),(1,1),(2,1),(3,4),(7,3),(10,1),(11,1),(12,1),(13,1)]) 14 208 (AV.agg [AV.b9,AV.b9,AV.b9,I 0,I 0,I 0,I 0,I 0,I 0,I 0,I 0,AV.b9,AV.b9,AV.b9])
def Rx:af:=af.mk (aL.struct [(0,1),(1,1),(2,1),(3,1),(4,1),(5,4),(9,1),(10,4),(14,1),(15,9)]) 24 192 (AV.agg [I 0,I 0,I 0,I 0,B false,I 0,I 0,I 0,I 0,I 0,I 0,I 0,I 0,I 0,B false,I 0,I 0,I 0,I 0,I 0,I 0,I 0,I 0,I 0])
def Ry:af:=af.mk (aL.struct [(0,1),(1,1),(2,1),(3,1),(4,1),(5,4),(9,1),(10,4),(14,1),(15,9)]) 24 192 (AV.agg [I 0,I 0,I 0,I 0,B false,I 0,I 0,I 0,I 0,I 0,I 0,I 0,I 0,I 0,B false,I 0,I 0,I 0,I 0,I 0,I 0,I 0,I 0,I 0])
def Rz:af:=af.mk (aL.struct [(0,4),(4,1)]) 5 40 (AV.agg [I 0,I 0,I 0,I 0,I 0])
def RA:af:=af.mk (aL.struct [(0,4),(4,1)]) 5 40 (AV.agg [I 0,I 0,I 0,I 0,I 0])
def RB:af:=af.mk aL.base 1 8 (AV.sc Value.nilFunc)
def RC:af:=af.mk aL.base 1 8 (AV.sc Value.nilFunc)
def RD:af:=af.mk aL.base 1 8 (AV.sc (Value.pointer none))
def RE:af:=af.mk aL.base 1 8 (AV.sc Value.nilFunc)
def RF:af:=af.mk (aL.struct [(0,1),(1,1)]) 2 16 (AV.agg [I 0,I 0])
def RG:af:=af.mk (aL.struct [(0,1),(1,1)]) 2 16 (AV.agg [I 0,I 0])
def RH:af:=af.mk aL.base 1 8 (AV.sc Value.nilFunc)
def RI:af:=af.mk (aL.array 2 128) 2 16 (AV.agg [AV.sc Value.nilFunc,AV.sc Value.nilFunc])
def RJ:af:=af.mk aL.base 1 8 (AV.sc Value.nilFunc)
def RK:af:=af.mk aL.base 1 8 (AV.sc Value.nilFunc)
def RL:af:=af.mk (aL.slice 34) 1 24 AV.b9
def RM:af:=af.mk aL.base 1 8 (AV.sc Value.nilFunc)
def RN:af:=af.mk aL.base 1 8 (AV.sc Value.nilFunc)
def RO:af:=af.mk aL.base 1 8 (AV.sc Value.nilFunc)
def RQ:af:=af.mk aL.base 1 8 (AV.sc Value.nilFunc)
def RS:af:=af.mk (aL.struct [(0,1),(1,1)]) 2 32 (AV.agg [I 0,AV.b9])
def RT:af:=af.mk (aL.struct [(0,1),(1,1)]) 2 32 (AV.agg [I 0,AV.b9])
def RU:af:=af.mk (aL.struct [(0,1),(1,2)]) 3 40 (AV.agg [I 0,I 0,AV.b9])
def RV:af:=af.mk (aL.struct [(0,1),(1,2)]) 3 40 (AV.agg [I 0,I 0,AV.b9])
def RW:af:=af.mk aL.base 1 8 (AV.sc Value.nilFunc)
def RX:af:=af.mk aL.base 1 8 (AV.sc Value.nilFunc)
def RY:af:=af.mk aL.base 1 8 (AV.sc Value.nilFunc)
def RZ:af:=af.mk aL.base 1 8 (AV.sc Value.nilFunc)
def R4:af:=af.mk aL.base 1 8 (AV.sc Value.nilFunc)
def R5:af:=af.mk (aL.array 2 3) 2 16 (AV.agg [I 0,I 0])
def R6:af:=af.mk aL.base 1 8 (AV.sc Value.nilFunc)
def R7:af:=af.mk aL.base 1 8 (AV.sc Value.nilFunc)
def R8:af:=af.mk aL.base 1 8 (AV.sc Value.nilFunc)
def R9:af:=af.mk aL.base 1 8 (AV.sc Value.nilFunc)
def R_:af:=af.mk aL.base 1 8 (AV.sc Value.nilFunc)
def Sa:af:=af.mk aL.base 1 8 (AV.sc Value.nilFunc)
def Sb:af:=af.mk aL.base 1 8 (AV.sc Value.nilFunc)
def Sc:af:=af.mk aL.base 1 8 (AV.sc Value.nilFunc)
def Sd:af:=af.mk aL.base 1 8 (AV.sc Value.nilFunc)
def Se:af:=af.mk (aL.struct [(0,1),(1,1),(2,1),(3,5),(8,4),(12,3)]) 15 184 (AV.agg [AV.b9,AV.b9,AV.b9,I 0,I 0,I 0,I 0,AV.b9,I 0,I 0,I 0,I 0,I 0,I 0,I 0])
def Sf:af:=af.mk (aL.struct [(0,1),(1,1),(2,1),(3,5),(8,4),(12,3)]) 15 184 (AV.agg [AV.b9,AV.b9,AV.b9,I 0,I 0,I 0,I 0,AV.b9,I 0,I 0,I 0,I 0,I 0,I 0,I 0])
def Sg:af:=af.mk aL.base 1 8 (AV.sc Value.nilFunc)
def Si:af:=af.mk aL.base 1 8 (AV.sc Value.nilFunc)
def Sj:af:=af.mk (aL.array 4 3) 4 32 (AV.agg [I 0,I 0,I 0,I 0])
def Sk:af:=af.mk aL.base 1 8 (AV.sc Value.nilFunc)
def Sl:af:=af.mk aL.base 1 8 (AV.sc Value.nilFunc)
def Sm:af:=af.mk aL.base 1 8 (AV.sc Value.nilFunc)
def Sn:af:=af.mk aL.base 1 8 (AV.sc Value.nilFunc)
def Sq:af:=af.mk (aL.slice 138) 1 24 AV.b9
def Sr:af:=af.mk aL.base 1 8 (AV.sc Value.nilFunc)
def Ss:af:=af.mk aL.base 1 8 (AV.sc Value.nilFunc)
def Su:af:=af.mk aL.base 1 8 (AV.sc Value.nilFunc)
def Sv:af:=af.mk aL.base 1 8 (AV.sc Value.nilFunc)
def Sw:af:=af.mk aL.base 1 8 (AV.sc Value.nilFunc)
def Sx:af:=af.mk aL.base 1 8 (AV.sc Value.nilFunc)
def Sy:af:=af.mk aL.base 1 8 (AV.sc Value.nilFunc)
def Sz:af:=af.mk aL.base 1 8 (AV.sc Value.nilFunc)
def SA:af:=af.mk aL.base 1 8 (AV.sc Value.nilFunc)
def SB:af:=af.mk (aL.struct [(0,4),(4,1)]) 5 40 (AV.agg [I 0,I 0,I 0,I 0,I 0])
def SC:af:=af.mk (aL.struct [(0,4),(4,1)]) 5 40 (AV.agg [I 0,I 0,I 0,I 0,I 0])
def SD:af:=af.mk aL.base 1 8 (AV.sc Value.nilFunc)
def SE:af:=af.mk aL.base 1 8 (AV.sc Value.nilFunc)
def SF:af:=af.mk aL.base 1 8 (AV.sc (Value.pointer none))
def SG:af:=af.mk aL.base 1 8 (AV.sc Value.nilFunc)
def SH:af:=af.mk (aL.array 3 34) 6 48 (AV.agg [I 0,I 0,I 0,I 0,I 0,I 0])
def SI:af:=af.mk aL.base 1 8 (AV.sc Value.nilFunc)
def SJ:af:=af.mk aL.base 1 8 (AV.sc Value.nilFunc)
def SK:af:=af.mk aL.base 1 8 (AV.sc Value.nilFunc)
def SL:af:=af.mk aL.base 1 8 (AV.sc Value.nilFunc)
def SM:af:=af.mk aL.base 1 8 (AV.sc Value.nilFunc)
def SN:af:=af.mk (aL.slice 260) 1 24 AV.b9
def SO:af:=af.mk aL.base 1 8 (AV.sc Value.nilFunc)
def SP:af:=af.mk aL.base 1 8 (AV.sc Value.nilFunc)
def SQ:af:=af.mk (aL.int IntKind.u64) 1 8 (AV.sc (Value.int IntKind.u64 0))
def SR:af:=af.mk aL.base 1 8 (AV.sc Value.nilFunc)
def SS:af:=af.mk aL.base 1 8 (AV.sc Value.nilFunc)
def SU:af:=af.mk aL.base 1 8 (AV.sc Value.nilFunc)
def SV:af:=af.mk (aL.array 2 34) 4 32 (AV.agg [I 0,I 0,I 0,I 0])
def SX:af:=af.mk aL.base 1 8 (AV.sc Value.nilFunc)
def SY:af:=af.mk aL.base 1 8 (AV.sc Value.nilFunc)
def SZ:af:=af.mk aL.base 1 8 (AV.sc Value.nilFunc)
def S0:af:=af.mk aL.base 1 8 (AV.sc Value.nilFunc)
def S1:af:=af.mk aL.base 1 8 (AV.sc Value.nilFunc)
def S2:af:=af.mk aL.base 1 8 (AV.sc Value.nilFunc)
def S3:af:=af.mk aL.base 1 8 (AV.sc Value.nilFunc)
def S4:af:=af.mk aL.base 1 8 (AV.sc Value.nilFunc)
def S5:af:=af.mk (aL.slice 94) 1 24 AV.b9
def S6:af:=af.mk aL.base 1 8 (AV.sc Value.nilFunc)
def S7:af:=af.mk (aL.slice 40) 1 24 AV.b9
def S8:af:=af.mk (aL.struct [(0,1),(1,1),(2,1),(3,1),(4,1),(5,1),(6,1)]) 7 120 (AV.agg [I 0,I 0,I 0,AV.b9,AV.b9,AV.b9,AV.b9])
def S9:af:=af.mk (aL.struct [(0,1),(1,1),(2,1),(3,1),(4,1),(5,1),(6,1)]) 7 120 (AV.agg [I 0,I 0,I 0,AV.b9,AV.b9,AV.b9,AV.b9])
def S_:af:=af.mk (aL.slice 222) 1 24 AV.b9
def S':af:=af.mk aL.base 1 8 (AV.sc Value.nilFunc)
def Ta:af:=af.mk (aL.slice 224) 1 24 AV.b9
def Tb:af:=af.mk aL.base 1 8 (AV.sc Value.nilFunc)
def Tc:af:=af.mk (aL.slice 37) 1 24 AV.b9
def Td:af:=af.mk (aL.struct [(0,1),(1,1)]) 2 16 (AV.agg [I 0,I 0])
def Te:af:=af.mk (aL.struct [(0,1),(1,1)]) 2 16 (AV.agg [I 0,I 0])
def Tf:af:=af.mk aL.base 1 8 (AV.sc Value.nilFunc)
def Tg:af:=af.mk aL.base 1 8 (AV.sc Value.nilFunc)
def Th:af:=af.mk aL.base 1 8 (AV.sc Value.nilFunc)
def Ti:af:=af.mk aL.base 1 8 (AV.sc Value.nilFunc)
def Tj:af:=af.mk aL.base 1 8 (AV.sc Value.nilFunc)
def Tk:af:=af.mk aL.base 1 8 (AV.sc Value.nilFunc)
def Tl:af:=af.mk aL.base 1 8 (AV.sc Value.nilFunc)
def Tm:af:=af.mk aL.base 1 8 (AV.sc Value.nilFunc)
def Tn:af:=af.mk aL.base 1 8 (AV.sc Value.nilFunc)
def To:af:=af.mk aL.base 1 8 (AV.sc Value.nilFunc)
def Tp:af:=af.mk aL.base 1 8 (AV.sc Value.nilFunc)
def Tq:af:=af.mk aL.base 1 8 (AV.sc Value.nilFunc)
def Tr:af:=af.mk aL.base 1 8 (AV.sc Value.nilFunc)
def Ts:af:=af.mk aL.base 1 8 (AV.sc Value.nilFunc)
def Tt:af:=af.mk aL.base 1 8 (AV.sc Value.nilFunc)
def Tu:af:=af.mk aL.base 1 8 (AV.sc Value.nilFunc)
def Tv:af:=af.mk aL.base 1 8 (AV.sc Value.nilFunc)
def Tw:af:=af.mk aL.base 1 8 (AV.sc Value.nilFunc)
def Tx:af:=af.mk aL.base 1 8 (AV.sc Value.nilFunc)
def Ty:af:=af.mk aL.base 1 8 (AV.sc Value.nilFunc)
def Tz:af:=af.mk aL.base 1 8 (AV.sc Value.nilFunc)
def TA:af:=af.mk aL.base 1 8 (AV.sc Value.nilFunc)
def TB:af:=af.mk (aL.slice 180) 1 24 AV.b9
def TC:af:=af.mk aL.base 1 8 (AV.sc Value.nilFunc)
def TD:af:=af.mk (aL.struct [(0,7),(7,4),(11,1),(12,1),(13,1)]) 14 184 (AV.agg [S ⟨#[]⟩,I 0,I 0,I 0,I 0,AV.b9,AV.b9,I 0,I 0,I 0,I 0,I 0,AV.b9,AV.b9])
def TE:af:=af.mk (aL.struct [(0,7),(7,4),(11,1),(12,1),(13,1)]) 14 184 (AV.agg [S ⟨#[]⟩,I 0,I 0,I 0,I 0,AV.b9,AV.b9,I 0,I 0,I 0,I 0,I 0,AV.b9,AV.b9])
def TF:af:=af.mk aL.base 1 8 (AV.sc Value.nilFunc)
def TG:af:=af.mk aL.base 1 8 (AV.sc Value.nilFunc)
def TH:af:=af.mk (aL.struct [(0,2),(2,1)]) 3 24 (AV.agg [I 0,I 0,I 0])
def TI:af:=af.mk (aL.struct [(0,2),(2,1)]) 3 24 (AV.agg [I 0,I 0,I 0])
def TJ:af:=af.mk (aL.slice 264) 1 24 AV.b9
def TK:af:=af.mk aL.base 1 8 (AV.sc Value.nilFunc)
def TL:af:=af.mk (aL.struct [(0,1),(1,1),(2,1),(3,1)]) 4 32 (AV.agg [I 0,I 0,AV.sc Value.nilFunc,I 0])
def TM:af:=af.mk (aL.struct [(0,1),(1,1),(2,1),(3,1)]) 4 32 (AV.agg [I 0,I 0,AV.sc Value.nilFunc,I 0])
def TN:af:=af.mk aL.base 1 8 (AV.sc Value.nilFunc)
def TO:af:=af.mk aL.base 1 8 (AV.sc Value.nilFunc)
def TP:af:=af.mk aL.base 1 8 (AV.sc Value.nilFunc)
def TQ:af:=af.mk aL.base 1 8 (AV.sc Value.nilFunc)
def TR:af:=af.mk aL.base 1 8 (AV.sc Value.nilFunc)
def TS:af:=af.mk aL.base 1 8 (AV.sc Value.nilFunc)
def TU:af:=af.mk (aL.slice 275) 1 24 AV.b9
def TV:af:=af.mk aL.base 1 8 (AV.sc Value.nilFunc)
def TW:af:=af.mk (aL.struct [(0,2),(2,1)]) 3 24 (AV.agg [I 0,I 0,I 0])
def TX:af:=af.mk (aL.struct [(0,2),(2,1)]) 3 24 (AV.agg [I 0,I 0,I 0])
def TY:af:=af.mk aL.base 1 8 (AV.sc Value.nilFunc)
def TZ:af:=af.mk aL.base 1 8 (AV.sc Value.nilFunc)
def T0:af:=af.mk aL.base 1 8 (AV.sc Value.nilFunc)
def T1:af:=af.mk aL.base 1 8 (AV.sc Value.nilFunc)
def T2:af:=af.mk aL.base 1 8 (AV.sc Value.nilFunc)
def T3:af:=af.mk aL.base 1 8 (AV.sc Value.nilFunc)
def T4:af:=af.mk aL.base 1 8 (AV.sc Value.nilFunc)
def T5:af:=af.mk (aL.array 4 94) 8 64 (AV.agg [I 0,I 0,I 0,I 0,I 0,I 0,I 0,I 0])
def T6:af:=af.mk aL.base 1 8 (AV.sc Value.nilFunc)
def T7:af:=af.mk aL.base 1 8 (AV.sc Value.nilFunc)
def T8:af:=af.mk aL.base 1 8 (AV.sc Value.nilFunc)
def T9:af:=af.mk aL.base 1 8 (AV.sc Value.nilFunc)
def T_:af:=af.mk aL.base 1 8 (AV.sc Value.nilFunc)
def Ua:af:=af.mk aL.base 1 8 (AV.sc Value.nilFunc)
def Ub:af:=af.mk aL.base 1 8 (AV.sc Value.nilFunc)
def Uc:af:=af.mk aL.base 1 8 (AV.sc Value.nilFunc)
def Ud:af:=af.mk aL.base 1 8 (AV.sc Value.nilFunc)
def Ue:af:=af.mk aL.base 1 8 (AV.sc Value.nilFunc)
def Uf:af:=af.mk aL.base 1 8 (AV.sc Value.nilFunc)
def Ug:af:=af.mk aL.base 1 8 (AV.sc Value.nilFunc)
def Uh:af:=af.mk aL.base 1 8 (AV.sc Value.nilFunc)
def Ui:af:=af.mk aL.base 1 8 (AV.sc Value.nilFunc)
def Uj:af:=af.mk aL.base 1 8 (AV.sc Value.nilFunc)
def Uk:af:=af.mk aL.base 1 8 (AV.sc Value.nilFunc)
def Ul:af:=af.mk aL.base 1 8 (AV.sc Value.nilFunc)
def Um:af:=af.mk aL.base 1 8 (AV.sc Value.nilFunc)
def Un:af:=af.mk aL.base 1 8 (AV.sc Value.nilFunc)
def Uo:af:=af.mk aL.base 1 8 (AV.sc Value.nilFunc)
def Up:af:=af.mk aL.base 1 8 (AV.sc Value.nilFunc)
def Uq:af:=af.mk aL.base 1 8 (AV.sc Value.nilFunc)
def Ur:af:=af.mk aL.base 1 8 (AV.sc Value.nilFunc)
def Us:af:=af.mk aL.base 1 8 (AV.sc Value.nilFunc)
def Ut:af:=af.mk (aL.int IntKind.u64) 1 8 (AV.sc (Value.int IntKind.u64 0))
def Uu:af:=af.mk aL.base 1 8 (AV.sc Value.nilFunc)
def Uv:af:=af.mk aL.base 1 8 (AV.sc Value.nilFunc)
def Uw:af:=af.mk aL.base 1 8 (AV.sc Value.nilFunc)
def Ux:af:=af.mk aL.base 1 8 (AV.sc Value.nilFunc)
def Uy:af:=af.mk aL.base 1 8 (AV.sc Value.nilFunc)
def Uz:af:=af.mk aL.base 1 8 (AV.sc Value.nilFunc)
def UA:af:=af.mk aL.base 1 8 (AV.sc Value.nilFunc)
def UB:af:=af.mk aL.base 1 8 (AV.sc Value.nilFunc)
def UC:af:=af.mk aL.base 1 8 (AV.sc Value.nilFunc)
def UD:af:=af.mk (aL.int IntKind.i64) 1 8 (I 0)
def UE:af:=af.mk aL.base 1 8 (AV.sc Value.nilFunc)
def UF:af:=af.mk aL.base 1 8 (AV.sc Value.nilFunc)
def UG:af:=af.mk aL.base 1 8 (AV.sc Value.nilFunc)
def UH:af:=af.mk aL.base 1 8 (AV.sc Value.nilFunc)
def UI:af:=af.mk aL.base 1 8 (AV.sc Value.nilFunc)
def UJ:af:=af.mk aL.base 1 8 (AV.sc Value.nilFunc)
def UK:af:=af.mk (aL.int IntKind.u32) 1 4 (AV.sc (Value.int IntKind.u32 0))
def UL:af:=af.mk aL.base 1 8 (AV.sc Value.nilFunc)
def UM:af:=af.mk aL.base 1 8 (AV.sc Value.nilFunc)
def UN:af:=af.mk (aL.int IntKind.u64) 1 8 (AV.sc (Value.int IntKind.u64 0))
def UO:af:=af.mk aL.base 1 8 (AV.sc Value.nilFunc)
def UP:af:=af.mk aL.base 1 8 (AV.sc Value.nilFunc)
def UQ:af:=af.mk aL.base 1 8 (AV.sc Value.nilFunc)
def UR:af:=af.mk aL.base 1 8 (AV.sc (Value.pointer none))
def US:af:=af.mk aL.base 1 8 (AV.sc Value.nilFunc)
def UT:af:=af.mk aL.base 1 8 (AV.sc Value.nilFunc)
def UU:af:=af.mk aL.base 1 8 (AV.sc Value.nilFunc)
def UW:af:=af.mk aL.base 1 8 (AV.sc Value.nilFunc)
def UX:af:=af.mk aL.base 1 8 (AV.sc Value.nilFunc)
def UY:af:=af.mk aL.base 1 8 (AV.sc Value.nilFunc)
def UZ:af:=af.mk aL.base 1 8 (AV.sc (Value.pointer none))
def U0:af:=af.mk aL.base 1 8 (AV.sc Value.nilFunc)
def U1:af:=af.mk aL.base 1 8 (AV.sc Value.nilFunc)
def U2:af:=af.mk aL.base 1 8 (AV.sc Value.nilFunc)
def U3:af:=af.mk aL.base 1 8 (AV.sc Value.nilFunc)
def U4:af:=af.mk aL.base 1 8 (AV.sc Value.nilFunc)
def U5:af:=af.mk aL.base 1 8 (AV.sc Value.nilFunc)
def U6:af:=af.mk aL.base 1 8 (AV.sc Value.nilFunc)
def U7:af:=af.mk aL.base 1 8 (AV.sc (Value.pointer none))
theorem ade:aF Tryz.prog 1=some PV:=by kernel_rfl
theorem adf:aF Tryz.prog 2=some um:=by kernel_rfl
theorem BB:aF Tryz.prog 3=some PW:=by kernel_rfl
theorem adg:aF Tryz.prog 4=some PX:=by kernel_rfl
theorem adh:aF Tryz.prog 5=some PY:=by kernel_rfl
theorem adi:aF Tryz.prog 9=some PZ:=by kernel_rfl
theorem adj:aF Tryz.prog 12=some P0:=by kernel_rfl
theorem adk:aF Tryz.prog 21=some P1:=by kernel_rfl
theorem adl:aF Tryz.prog 22=some P2:=by kernel_rfl
theorem adm:aF Tryz.prog 23=some P3:=by kernel_rfl
theorem adn:aF Tryz.prog 24=some P4:=by kernel_rfl
theorem ado:aF Tryz.prog 25=some P5:=by kernel_rfl
theorem adp:aF Tryz.prog 26=some P6:=by kernel_rfl
theorem adq:aF Tryz.prog 27=some P7:=by kernel_rfl
theorem adr:aF Tryz.prog 28=some P8:=by kernel_rfl
theorem ads:aF Tryz.prog 29=some P9:=by kernel_rfl
theorem adt:aF Tryz.prog 30=some Qa:=by kernel_rfl
theorem adu:aF Tryz.prog 31=some Qb:=by kernel_rfl
theorem adv:aF Tryz.prog 32=some Qc:=by kernel_rfl
theorem adw:aF Tryz.prog 33=some Qd:=by kernel_rfl
theorem adx:aF Tryz.prog 34=some Qe:=by kernel_rfl
theorem ady:aF Tryz.prog 35=some Qf:=by kernel_rfl
theorem adz:aF Tryz.prog 36=some Qg:=by kernel_rfl
theorem adA:aF Tryz.prog 37=some Qh:=by kernel_rfl
theorem adB:aF Tryz.prog 38=some Qi:=by kernel_rfl
theorem adC:aF Tryz.prog 39=some Qj:=by kernel_rfl
theorem adD:aF Tryz.prog 40=some Qk:=by kernel_rfl
theorem adE:aF Tryz.prog 41=some Ql:=by kernel_rfl
theorem adF:aF Tryz.prog 42=some Qm:=by kernel_rfl
theorem adG:aF Tryz.prog 43=some Qn:=by kernel_rfl
theorem adH:aF Tryz.prog 44=some Qo:=by kernel_rfl
theorem adI:aF Tryz.prog 46=some Qp:=by kernel_rfl
theorem adJ:aF Tryz.prog 47=some Qq:=by kernel_rfl
theorem adK:aF Tryz.prog 49=some Qr:=by kernel_rfl
theorem adL:aF Tryz.prog 50=some Qs:=by kernel_rfl
theorem adM:aF Tryz.prog 51=some Qt:=by kernel_rfl
theorem adN:aF Tryz.prog 52=some Qu:=by kernel_rfl
theorem adO:aF Tryz.prog 53=some Qv:=by kernel_rfl
theorem adP:aF Tryz.prog 54=some Qw:=by kernel_rfl
theorem adQ:aF Tryz.prog 55=some Qx:=by kernel_rfl
theorem adR:aF Tryz.prog 57=some Qy:=by kernel_rfl
theorem adS:aF Tryz.prog 58=some Qz:=by kernel_rfl
theorem adT:aF Tryz.prog 59=some QA:=by kernel_rfl
theorem adU:aF Tryz.prog 60=some QB:=by kernel_rfl
theorem adV:aF Tryz.prog 61=some QC:=by kernel_rfl
theorem adW:aF Tryz.prog 62=some QD:=by kernel_rfl
theorem adX:aF Tryz.prog 63=some QE:=by kernel_rfl
theorem adY:aF Tryz.prog 64=some QF:=by kernel_rfl
theorem adZ:aF Tryz.prog 65=some QG:=by kernel_rfl
theorem ad0:aF Tryz.prog 66=some QH:=by kernel_rfl
theorem ad1:aF Tryz.prog 67=some QI:=by kernel_rfl
theorem ad2:aF Tryz.prog 68=some QJ:=by kernel_rfl
theorem ad3:aF Tryz.prog 69=some QK:=by kernel_rfl
theorem ad4:aF Tryz.prog 70=some QL:=by kernel_rfl
theorem ad5:aF Tryz.prog 71=some QM:=by kernel_rfl
theorem ad6:aF Tryz.prog 72=some QN:=by kernel_rfl
theorem ad7:aF Tryz.prog 73=some QO:=by kernel_rfl
theorem ad8:aF Tryz.prog 74=some QP:=by kernel_rfl
theorem ad9:aF Tryz.prog 75=some QQ:=by kernel_rfl
theorem ad_:aF Tryz.prog 76=some QR:=by kernel_rfl
theorem ad':aF Tryz.prog 77=some QS:=by kernel_rfl
theorem aea:aF Tryz.prog 79=some QT:=by kernel_rfl
theorem aeb:aF Tryz.prog 80=some QU:=by kernel_rfl
theorem aec:aF Tryz.prog 82=some QV:=by kernel_rfl
theorem aed:aF Tryz.prog 83=some QW:=by kernel_rfl
theorem aee:aF Tryz.prog 84=some QX:=by kernel_rfl
theorem aef:aF Tryz.prog 86=some QY:=by kernel_rfl
theorem aeg:aF Tryz.prog 87=some QZ:=by kernel_rfl
theorem aeh:aF Tryz.prog 88=some Q0:=by kernel_rfl
theorem aei:aF Tryz.prog 89=some Q1:=by kernel_rfl
theorem aej:aF Tryz.prog 90=some Q2:=by kernel_rfl
theorem aek:aF Tryz.prog 91=some Q3:=by kernel_rfl
theorem ael:aF Tryz.prog 92=some Q4:=by kernel_rfl
theorem aem:aF Tryz.prog 93=some Q5:=by kernel_rfl
theorem aen:aF Tryz.prog 94=some Q6:=by kernel_rfl
theorem aeo:aF Tryz.prog 95=some Q7:=by kernel_rfl
theorem aep:aF Tryz.prog 96=some Q8:=by kernel_rfl
theorem aeq:aF Tryz.prog 97=some Q9:=by kernel_rfl
theorem aer:aF Tryz.prog 98=some Q_:=by kernel_rfl
theorem aes:aF Tryz.prog 99=some Re:=by kernel_rfl
theorem aet:aF Tryz.prog 100=some Rf:=by kernel_rfl
theorem aeu:aF Tryz.prog 101=some Rg:=by kernel_rfl
theorem aev:aF Tryz.prog 102=some Rh:=by kernel_rfl
theorem aew:aF Tryz.prog 104=some Ri:=by kernel_rfl
theorem aex:aF Tryz.prog 105=some Rj:=by kernel_rfl
theorem aey:aF Tryz.prog 106=some Rk:=by kernel_rfl
theorem aez:aF Tryz.prog 107=some Rl:=by kernel_rfl
theorem aeA:aF Tryz.prog 108=some Rm:=by kernel_rfl
theorem aeB:aF Tryz.prog 109=some Ro:=by kernel_rfl
theorem aeC:aF Tryz.prog 111=some Rp:=by kernel_rfl
theorem aeD:aF Tryz.prog 112=some Rq:=by kernel_rfl
theorem aeE:aF Tryz.prog 113=some Rr:=by kernel_rfl
theorem aeF:aF Tryz.prog 114=some Rt:=by kernel_rfl
theorem aeG:aF Tryz.prog 115=some Ru:=by kernel_rfl
theorem aeH:aF Tryz.prog 116=some Rv:=by kernel_rfl
theorem aeI:aF Tryz.prog 117=some Rw:=by kernel_rfl
theorem aeJ:aF Tryz.prog 118=some Rx:=by kernel_rfl
theorem aeK:aF Tryz.prog 119=some Ry:=by kernel_rfl
theorem aeL:aF Tryz.prog 120=some Rz:=by kernel_rfl
theorem aeM:aF Tryz.prog 121=some RA:=by kernel_rfl
theorem aeN:aF Tryz.prog 122=some RB:=by kernel_rfl
theorem aeO:aF Tryz.prog 123=some RC:=by kernel_rfl
theorem aeP:aF Tryz.prog 124=some RD:=by kernel_rfl
theorem aeQ:aF Tryz.prog 125=some RE:=by kernel_rfl
theorem aeR:aF Tryz.prog 126=some RF:=by kernel_rfl
theorem aeS:aF Tryz.prog 127=some RG:=by kernel_rfl
theorem aeT:aF Tryz.prog 128=some RH:=by kernel_rfl
theorem aeU:aF Tryz.prog 129=some RI:=by kernel_rfl
theorem aeV:aF Tryz.prog 130=some RJ:=by kernel_rfl
theorem aeW:aF Tryz.prog 131=some RK:=by kernel_rfl
theorem aeX:aF Tryz.prog 132=some RL:=by kernel_rfl
theorem aeY:aF Tryz.prog 133=some RM:=by kernel_rfl
theorem aeZ:aF Tryz.prog 134=some RN:=by kernel_rfl
theorem ae0:aF Tryz.prog 135=some RO:=by kernel_rfl
theorem ae1:aF Tryz.prog 136=some RQ:=by kernel_rfl
theorem ae2:aF Tryz.prog 137=some RS:=by kernel_rfl
theorem ae3:aF Tryz.prog 138=some RT:=by kernel_rfl
theorem ae4:aF Tryz.prog 139=some RU:=by kernel_rfl
theorem ae5:aF Tryz.prog 140=some RV:=by kernel_rfl
theorem ae6:aF Tryz.prog 141=some RW:=by kernel_rfl
theorem ae7:aF Tryz.prog 142=some RX:=by kernel_rfl
theorem ae8:aF Tryz.prog 143=some RY:=by kernel_rfl
theorem ae9:aF Tryz.prog 144=some RZ:=by kernel_rfl
theorem ae_:aF Tryz.prog 146=some R4:=by kernel_rfl
theorem ae':aF Tryz.prog 147=some R5:=by kernel_rfl
theorem afa:aF Tryz.prog 148=some R6:=by kernel_rfl
theorem afb:aF Tryz.prog 149=some R7:=by kernel_rfl
theorem afc:aF Tryz.prog 150=some R8:=by kernel_rfl
theorem afd:aF Tryz.prog 151=some R9:=by kernel_rfl
theorem afe:aF Tryz.prog 152=some R_:=by kernel_rfl
theorem aff:aF Tryz.prog 153=some Sa:=by kernel_rfl
theorem afg:aF Tryz.prog 155=some Sb:=by kernel_rfl
theorem afh:aF Tryz.prog 157=some Sc:=by kernel_rfl
theorem afi:aF Tryz.prog 158=some Sd:=by kernel_rfl
theorem afj:aF Tryz.prog 159=some Se:=by kernel_rfl
theorem afk:aF Tryz.prog 160=some Sf:=by kernel_rfl
theorem afl:aF Tryz.prog 161=some Sg:=by kernel_rfl
theorem afm:aF Tryz.prog 162=some Si:=by kernel_rfl
theorem afn:aF Tryz.prog 163=some Sj:=by kernel_rfl
theorem afo:aF Tryz.prog 164=some Sk:=by kernel_rfl
theorem afp:aF Tryz.prog 165=some Sl:=by kernel_rfl
theorem afq:aF Tryz.prog 166=some Sm:=by kernel_rfl
theorem afr:aF Tryz.prog 167=some Sn:=by kernel_rfl
theorem afs:aF Tryz.prog 168=some Sq:=by kernel_rfl
theorem aft:aF Tryz.prog 170=some Sr:=by kernel_rfl
theorem afu:aF Tryz.prog 171=some Ss:=by kernel_rfl
theorem afv:aF Tryz.prog 172=some Su:=by kernel_rfl
theorem afw:aF Tryz.prog 173=some Sv:=by kernel_rfl
theorem afx:aF Tryz.prog 174=some Sw:=by kernel_rfl
theorem afy:aF Tryz.prog 175=some Sx:=by kernel_rfl
theorem afz:aF Tryz.prog 176=some Sy:=by kernel_rfl
theorem afA:aF Tryz.prog 177=some Sz:=by kernel_rfl
theorem afB:aF Tryz.prog 178=some SA:=by kernel_rfl
theorem afC:aF Tryz.prog 179=some SB:=by kernel_rfl
theorem afD:aF Tryz.prog 180=some SC:=by kernel_rfl
theorem afE:aF Tryz.prog 181=some SD:=by kernel_rfl
theorem afF:aF Tryz.prog 182=some SE:=by kernel_rfl
theorem afG:aF Tryz.prog 183=some SF:=by kernel_rfl
theorem afH:aF Tryz.prog 185=some SG:=by kernel_rfl
theorem afI:aF Tryz.prog 186=some SH:=by kernel_rfl
theorem afJ:aF Tryz.prog 187=some SI:=by kernel_rfl
theorem afK:aF Tryz.prog 189=some SJ:=by kernel_rfl
theorem afL:aF Tryz.prog 190=some SK:=by kernel_rfl
theorem afM:aF Tryz.prog 191=some SL:=by kernel_rfl
theorem afN:aF Tryz.prog 192=some SM:=by kernel_rfl
theorem afO:aF Tryz.prog 193=some SN:=by kernel_rfl
theorem afP:aF Tryz.prog 194=some SO:=by kernel_rfl
theorem afQ:aF Tryz.prog 195=some SP:=by kernel_rfl
theorem afR:aF Tryz.prog 196=some SQ:=by kernel_rfl
theorem afS:aF Tryz.prog 197=some SR:=by kernel_rfl
theorem afT:aF Tryz.prog 198=some SS:=by kernel_rfl
theorem afU:aF Tryz.prog 199=some SU:=by kernel_rfl
theorem afV:aF Tryz.prog 200=some SV:=by kernel_rfl
theorem afW:aF Tryz.prog 201=some SX:=by kernel_rfl
theorem afX:aF Tryz.prog 203=some SY:=by kernel_rfl
theorem afY:aF Tryz.prog 204=some SZ:=by kernel_rfl
theorem afZ:aF Tryz.prog 206=some S0:=by kernel_rfl
theorem af0:aF Tryz.prog 207=some S1:=by kernel_rfl
theorem af1:aF Tryz.prog 208=some S2:=by kernel_rfl
theorem af2:aF Tryz.prog 209=some S3:=by kernel_rfl
theorem af3:aF Tryz.prog 210=some S4:=by kernel_rfl
theorem af4:aF Tryz.prog 211=some S5:=by kernel_rfl
theorem af5:aF Tryz.prog 212=some S6:=by kernel_rfl
theorem af6:aF Tryz.prog 213=some S7:=by kernel_rfl
theorem af7:aF Tryz.prog 214=some S8:=by kernel_rfl
theorem af8:aF Tryz.prog 215=some S9:=by kernel_rfl
theorem af9:aF Tryz.prog 216=some S_:=by kernel_rfl
theorem af_:aF Tryz.prog 218=some S':=by kernel_rfl
theorem af':aF Tryz.prog 219=some Ta:=by kernel_rfl
theorem aga:aF Tryz.prog 221=some Tb:=by kernel_rfl
theorem agb:aF Tryz.prog 222=some Tc:=by kernel_rfl
theorem agc:aF Tryz.prog 223=some Td:=by kernel_rfl
theorem agd:aF Tryz.prog 224=some Te:=by kernel_rfl
theorem age:aF Tryz.prog 225=some Tf:=by kernel_rfl
theorem agf:aF Tryz.prog 226=some Tg:=by kernel_rfl
theorem agh:aF Tryz.prog 228=some Th:=by kernel_rfl
theorem agi:aF Tryz.prog 229=some Ti:=by kernel_rfl
theorem agj:aF Tryz.prog 231=some Tj:=by kernel_rfl
theorem agl:aF Tryz.prog 233=some Tk:=by kernel_rfl
theorem agm:aF Tryz.prog 234=some Tl:=by kernel_rfl
theorem agn:aF Tryz.prog 235=some Tm:=by kernel_rfl
theorem ago:aF Tryz.prog 236=some Tn:=by kernel_rfl
theorem agp:aF Tryz.prog 237=some To:=by kernel_rfl
theorem agq:aF Tryz.prog 238=some Tp:=by kernel_rfl
theorem agr:aF Tryz.prog 239=some Tq:=by kernel_rfl
theorem ags:aF Tryz.prog 240=some Tr:=by kernel_rfl
theorem agt:aF Tryz.prog 241=some Ts:=by kernel_rfl
theorem agu:aF Tryz.prog 242=some Tt:=by kernel_rfl
theorem agv:aF Tryz.prog 244=some Tu:=by kernel_rfl
theorem agw:aF Tryz.prog 245=some Tv:=by kernel_rfl
theorem agx:aF Tryz.prog 246=some Tw:=by kernel_rfl
theorem agy:aF Tryz.prog 247=some Tx:=by kernel_rfl
theorem agz:aF Tryz.prog 248=some Ty:=by kernel_rfl
theorem agA:aF Tryz.prog 249=some Tz:=by kernel_rfl
theorem agB:aF Tryz.prog 250=some TA:=by kernel_rfl
theorem agC:aF Tryz.prog 251=some TB:=by kernel_rfl
theorem agD:aF Tryz.prog 253=some TC:=by kernel_rfl
theorem agE:aF Tryz.prog 254=some TD:=by kernel_rfl
theorem agF:aF Tryz.prog 255=some TE:=by kernel_rfl
theorem agG:aF Tryz.prog 257=some TF:=by kernel_rfl
theorem agH:aF Tryz.prog 258=some TG:=by kernel_rfl
theorem agI:aF Tryz.prog 259=some TH:=by kernel_rfl
theorem agJ:aF Tryz.prog 260=some TI:=by kernel_rfl
theorem agK:aF Tryz.prog 261=some TJ:=by kernel_rfl
theorem agL:aF Tryz.prog 262=some TK:=by kernel_rfl
theorem agM:aF Tryz.prog 263=some TL:=by kernel_rfl
theorem agN:aF Tryz.prog 264=some TM:=by kernel_rfl
theorem agO:aF Tryz.prog 265=some TN:=by kernel_rfl
theorem agP:aF Tryz.prog 266=some TO:=by kernel_rfl
theorem agQ:aF Tryz.prog 267=some TP:=by kernel_rfl
theorem agR:aF Tryz.prog 269=some TQ:=by kernel_rfl
theorem agS:aF Tryz.prog 270=some TR:=by kernel_rfl
theorem agT:aF Tryz.prog 271=some TS:=by kernel_rfl
theorem agU:aF Tryz.prog 272=some TU:=by kernel_rfl
theorem agV:aF Tryz.prog 273=some TV:=by kernel_rfl
theorem agW:aF Tryz.prog 274=some TW:=by kernel_rfl
theorem agX:aF Tryz.prog 275=some TX:=by kernel_rfl
theorem agY:aF Tryz.prog 276=some TY:=by kernel_rfl
theorem agZ:aF Tryz.prog 277=some TZ:=by kernel_rfl
theorem ag0:aF Tryz.prog 278=some T0:=by kernel_rfl
theorem ag1:aF Tryz.prog 279=some T1:=by kernel_rfl
theorem ag2:aF Tryz.prog 280=some T2:=by kernel_rfl
theorem ag3:aF Tryz.prog 281=some T3:=by kernel_rfl
theorem ag4:aF Tryz.prog 282=some T4:=by kernel_rfl
theorem ag5:aF Tryz.prog 283=some T5:=by kernel_rfl
theorem ag6:aF Tryz.prog 284=some T6:=by kernel_rfl
theorem ag7:aF Tryz.prog 285=some T7:=by kernel_rfl
theorem ag8:aF Tryz.prog 286=some T8:=by kernel_rfl
theorem ag9:aF Tryz.prog 287=some T9:=by kernel_rfl
theorem ag_:aF Tryz.prog 288=some T_:=by kernel_rfl
theorem ag':aF Tryz.prog 289=some Ua:=by kernel_rfl
theorem aha:aF Tryz.prog 290=some Ub:=by kernel_rfl
theorem ahb:aF Tryz.prog 291=some Uc:=by kernel_rfl
theorem ahc:aF Tryz.prog 292=some Ud:=by kernel_rfl
theorem ahd:aF Tryz.prog 293=some Ue:=by kernel_rfl
theorem ahe:aF Tryz.prog 294=some Uf:=by kernel_rfl
theorem ahf:aF Tryz.prog 296=some Ug:=by kernel_rfl
theorem ahg:aF Tryz.prog 298=some Uh:=by kernel_rfl
theorem ahh:aF Tryz.prog 299=some Ui:=by kernel_rfl
theorem ahi:aF Tryz.prog 300=some Uj:=by kernel_rfl
theorem ahj:aF Tryz.prog 301=some Uk:=by kernel_rfl
theorem ahk:aF Tryz.prog 302=some Ul:=by kernel_rfl
theorem ahl:aF Tryz.prog 303=some Um:=by kernel_rfl
theorem ahm:aF Tryz.prog 304=some Un:=by kernel_rfl
theorem ahn:aF Tryz.prog 305=some Uo:=by kernel_rfl
theorem aho:aF Tryz.prog 306=some Up:=by kernel_rfl
theorem ahp:aF Tryz.prog 307=some Uq:=by kernel_rfl
theorem ahq:aF Tryz.prog 308=some Ur:=by kernel_rfl
theorem ahr:aF Tryz.prog 309=some Us:=by kernel_rfl
theorem ahs:aF Tryz.prog 310=some Ut:=by kernel_rfl
theorem aht:aF Tryz.prog 311=some Uu:=by kernel_rfl
theorem ahu:aF Tryz.prog 312=some Uv:=by kernel_rfl
theorem ahv:aF Tryz.prog 313=some Uw:=by kernel_rfl
theorem ahw:aF Tryz.prog 314=some Ux:=by kernel_rfl
theorem ahx:aF Tryz.prog 315=some Uy:=by kernel_rfl
theorem ahy:aF Tryz.prog 316=some Uz:=by kernel_rfl
theorem ahz:aF Tryz.prog 317=some UA:=by kernel_rfl
theorem ahA:aF Tryz.prog 318=some UB:=by kernel_rfl
theorem ahB:aF Tryz.prog 319=some UC:=by kernel_rfl
theorem ahC:aF Tryz.prog 320=some UD:=by kernel_rfl
theorem ahD:aF Tryz.prog 322=some UE:=by kernel_rfl
theorem ahE:aF Tryz.prog 323=some UF:=by kernel_rfl
theorem ahF:aF Tryz.prog 324=some UG:=by kernel_rfl
theorem ahG:aF Tryz.prog 325=some UH:=by kernel_rfl
theorem ahH:aF Tryz.prog 326=some UI:=by kernel_rfl
theorem ahI:aF Tryz.prog 327=some UJ:=by kernel_rfl
theorem ahJ:aF Tryz.prog 328=some UK:=by kernel_rfl
theorem ahK:aF Tryz.prog 329=some UL:=by kernel_rfl
theorem ahL:aF Tryz.prog 330=some UM:=by kernel_rfl
theorem ahM:aF Tryz.prog 331=some UN:=by kernel_rfl
theorem ahN:aF Tryz.prog 332=some UO:=by kernel_rfl
theorem ahO:aF Tryz.prog 333=some UP:=by kernel_rfl
theorem ahP:aF Tryz.prog 334=some UQ:=by kernel_rfl
theorem ahQ:aF Tryz.prog 335=some UR:=by kernel_rfl
theorem ahR:aF Tryz.prog 336=some US:=by kernel_rfl
theorem ahS:aF Tryz.prog 337=some UT:=by kernel_rfl
theorem ahT:aF Tryz.prog 338=some UU:=by kernel_rfl
theorem ahU:aF Tryz.prog 339=some UW:=by kernel_rfl
theorem ahV:aF Tryz.prog 340=some UX:=by kernel_rfl
theorem ahW:aF Tryz.prog 341=some UY:=by kernel_rfl
theorem ahX:aF Tryz.prog 342=some UZ:=by kernel_rfl
theorem ahY:aF Tryz.prog 343=some U0:=by kernel_rfl
theorem ahZ:aF Tryz.prog 344=some U1:=by kernel_rfl
theorem ah0:aF Tryz.prog 345=some U2:=by kernel_rfl
theorem ah1:aF Tryz.prog 346=some U3:=by kernel_rfl
theorem ah2:aF Tryz.prog 347=some U4:=by kernel_rfl
theorem ah3:aF Tryz.prog 353=some U5:=by kernel_rfl
theorem ah4:aF Tryz.prog 356=some U6:=by kernel_rfl
theorem ah5:aF Tryz.prog 357=some U7:=by kernel_rfl
def tt:TT:=[(1,PV),(2,um),(3,PW),(4,PX),(5,PY),(9,PZ),(12,P0),(21,P1),(22,P2),(23,P3),(24,P4),(25,P5),(26,P6),(27,P7),(28,P8),(29,P9),(30,Qa),(31,Qb),(32,Qc),(33,Qd),(34,Qe),(35,Qf),(36,Qg),(37,Qh),(38,Qi),(39,Qj),(40,Qk),(41,Ql),(42,Qm),(43,Qn),(44,Qo),(46,Qp),(47,Qq),(49,Qr),(50,Qs),(51,Qt),(52,Qu),(53,Qv),(54,Qw),(55,Qx),(57,Qy),(58,Qz),(59,QA),(60,QB),(61,QC),(62,QD),(63,QE),(64,QF),(65,QG),(66,QH),(67,QI),(68,QJ),(69,QK),(70,QL),(71,QM),(72,QN),(73,QO),(74,QP),(75,QQ),(76,QR),(77,QS),(79,QT),(80,QU),(82,QV),(83,QW),(84,QX),(86,QY),(87,QZ),(88,Q0),(89,Q1),(90,Q2),(91,Q3),(92,Q4),(93,Q5),(94,Q6),(95,Q7),(96,Q8),(97,Q9),(98,Q_),(99,Re),(100,Rf),(101,Rg),(102,Rh),(104,Ri),(105,Rj),(106,Rk),(107,Rl),(108,Rm),(109,Ro),(111,Rp),(112,Rq),(113,Rr),(114,Rt),(115,Ru),(116,Rv),(117,Rw),(118,Rx),(119,Ry),(120,Rz),(121,RA),(122,RB),(123,RC),(124,RD),(125,RE),(126,RF),(127,RG),(128,RH),(129,RI),(130,RJ),(131,RK),(132,RL),(133,RM),(134,RN),(135,RO),(136,RQ),(137,RS),(138,RT),(139,RU),(140,RV),(141,RW),(142,RX),(143,RY),(144,RZ),(146,R4),(147,R5),(148,R6),(149,R7),(150,R8),(151,R9),(152,R_),(153,Sa),(155,Sb),(157,Sc),(158,Sd),(159,Se),(160,Sf),(161,Sg),(162,Si),(163,Sj),(164,Sk),(165,Sl),(166,Sm),(167,Sn),(168,Sq),(170,Sr),(171,Ss),(172,Su),(173,Sv),(174,Sw),(175,Sx),(176,Sy),(177,Sz),(178,SA),(179,SB),(180,SC),(181,SD),(182,SE),(183,SF),(185,SG),(186,SH),(187,SI),(189,SJ),(190,SK),(191,SL),(192,SM),(193,SN),(194,SO),(195,SP),(196,SQ),(197,SR),(198,SS),(199,SU),(200,SV),(201,SX),(203,SY),(204,SZ),(206,S0),(207,S1),(208,S2),(209,S3),(210,S4),(211,S5),(212,S6),(213,S7),(214,S8),(215,S9),(216,S_),(218,S'),(219,Ta),(221,Tb),(222,Tc),(223,Td),(224,Te),(225,Tf),(226,Tg),(228,Th),(229,Ti),(231,Tj),(233,Tk),(234,Tl),(235,Tm),(236,Tn),(237,To),(238,Tp),(239,Tq),(240,Tr),(241,Ts),(242,Tt),(244,Tu),(245,Tv),(246,Tw),(247,Tx),(248,Ty),(249,Tz),(250,TA),(251,TB),(253,TC),(254,TD),(255,TE),(257,TF),(258,TG),(259,TH),(260,TI),(261,TJ),(262,TK),(263,TL),(264,TM),(265,TN),(266,TO),(267,TP),(269,TQ),(270,TR),(271,TS),(272,TU),(273,TV),(274,TW),(275,TX),(276,TY),(277,TZ),(278,T0),(279,T1),(280,T2),(281,T3),(282,T4),(283,T5),(284,T6),(285,T7),(286,T8),(287,T9),(288,T_),(289,Ua),(290,Ub),(291,Uc),(292,Ud),(293,Ue),(294,Uf),(296,Ug),(298,Uh),(299,Ui),(300,Uj),(301,Uk),(302,Ul),(303,Um),(304,Un),(305,Uo),(306,Up),(307,Uq),(308,Ur),(309,Us),(310,Ut),(311,Uu),(312,Uv),(313,Uw),(314,Ux),(315,Uy),(316,Uz),(317,UA),(318,UB),(319,UC),(320,UD),(322,UE),(323,UF),(324,UG),(325,UH),(326,UI),(327,UJ),(328,UK),(329,UL),(330,UM),(331,UN),(332,UO),(333,UP),(334,UQ),(335,UR),(336,US),(337,UT),(338,UU),(339,UW),(340,UX),(341,UY),(342,UZ),(343,U0),(344,U1),(345,U2),(346,U3),(347,U4),(353,U5),(356,U6),(357,U7)]
theorem aa:fK Tryz.prog tt:=aM ade (aM adf (aM BB (aM adg (aM adh (aM adi (aM adj (aM adk (aM adl (aM adm (aM adn (aM ado (aM adp (aM adq (aM adr (aM ads (aM adt (aM adu (aM adv (aM adw (aM adx (aM ady (aM adz (aM adA (aM adB (aM adC (aM adD (aM adE (aM adF (aM adG (aM adH (aM adI (aM adJ (aM adK (aM adL (aM adM (aM adN (aM adO (aM adP (aM adQ (aM adR (aM adS (aM adT (aM adU (aM adV (aM adW (aM adX (aM adY (aM adZ (aM ad0 (aM ad1 (aM ad2 (aM ad3 (aM ad4 (aM ad5 (aM ad6 (aM ad7 (aM ad8 (aM ad9 (aM ad_ (aM ad' (aM aea (aM aeb (aM aec (aM aed (aM aee (aM aef (aM aeg (aM aeh (aM aei (aM aej (aM aek (aM ael (aM aem (aM aen (aM aeo (aM aep (aM aeq (aM aer (aM aes (aM aet (aM aeu (aM aev (aM aew (aM aex (aM aey (aM aez (aM aeA (aM aeB (aM aeC (aM aeD (aM aeE (aM aeF (aM aeG (aM aeH (aM aeI (aM aeJ (aM aeK (aM aeL (aM aeM (aM aeN (aM aeO (aM aeP (aM aeQ (aM aeR (aM aeS (aM aeT (aM aeU (aM aeV (aM aeW (aM aeX (aM aeY (aM aeZ (aM ae0 (aM ae1 (aM ae2 (aM ae3 (aM ae4 (aM ae5 (aM ae6 (aM ae7 (aM ae8 (aM ae9 (aM ae_ (aM ae' (aM afa (aM afb (aM afc (aM afd (aM afe (aM aff (aM afg (aM afh (aM afi (aM afj (aM afk (aM afl (aM afm (aM afn (aM afo (aM afp (aM afq (aM afr (aM afs (aM aft (aM afu (aM afv (aM afw (aM afx (aM afy (aM afz (aM afA (aM afB (aM afC (aM afD (aM afE (aM afF (aM afG (aM afH (aM afI (aM afJ (aM afK (aM afL (aM afM (aM afN (aM afO (aM afP (aM afQ (aM afR (aM afS (aM afT (aM afU (aM afV (aM afW (aM afX (aM afY (aM afZ (aM af0 (aM af1 (aM af2 (aM af3 (aM af4 (aM af5 (aM af6 (aM af7 (aM af8 (aM af9 (aM af_ (aM af' (aM aga (aM agb (aM agc (aM agd (aM age (aM agf (aM agh (aM agi (aM agj (aM agl (aM agm (aM agn (aM ago (aM agp (aM agq (aM agr (aM ags (aM agt (aM agu (aM agv (aM agw (aM agx (aM agy (aM agz (aM agA (aM agB (aM agC (aM agD (aM agE (aM agF (aM agG (aM agH (aM agI (aM agJ (aM agK (aM agL (aM agM (aM agN (aM agO (aM agP (aM agQ (aM agR (aM agS (aM agT (aM agU (aM agV (aM agW (aM agX (aM agY (aM agZ (aM ag0 (aM ag1 (aM ag2 (aM ag3 (aM ag4 (aM ag5 (aM ag6 (aM ag7 (aM ag8 (aM ag9 (aM ag_ (aM ag' (aM aha (aM ahb (aM ahc (aM ahd (aM ahe (aM ahf (aM ahg (aM ahh (aM ahi (aM ahj (aM ahk (aM ahl (aM ahm (aM ahn (aM aho (aM ahp (aM ahq (aM ahr (aM ahs (aM aht (aM ahu (aM ahv (aM ahw (aM ahx (aM ahy (aM ahz (aM ahA (aM ahB (aM ahC (aM ahD (aM ahE (aM ahF (aM ahG (aM ahH (aM ahI (aM ahJ (aM ahK (aM ahL (aM ahM (aM ahN (aM ahO (aM ahP (aM ahQ (aM ahR (aM ahS (aM ahT (aM ahU (aM ahV (aM ahW (aM ahX (aM ahY (aM ahZ (aM ah0 (aM ah1 (aM ah2 (aM ah3 (aM ah4 (aM ah5 (acf _)))))))))))))))))))))))))))))))))))))))))))))))))))))))))))))))))))))))))))))))))))))))))))))))))))))))))))))))))))))))))))))))))))))))))))))))))))))))))))))))))))))))))))))))))))))))))))))))))))))))))))))))))))))))))))))))))))))))))))))))))))))))))))))))))))))))))))))))))))))))))))))))))))))))))))))))))))))
theorem nd {p:Prop}:(false=true)→p:=fun h=>by cases h
theorem cL:Tryz.prog.follows .mixedOrders=true:=by kernel_rfl
theorem fn5:bI Tryz.prog 5:=⟨_,Tryz.func5,by kernel_rfl,rfl⟩
theorem vW:bI Tryz.prog 6:=⟨_,Tryz.func6,by kernel_rfl,rfl⟩
theorem fn7:bI Tryz.prog 7:=⟨_,Tryz.func7,by kernel_rfl,rfl⟩
theorem E6:bI Tryz.prog 8:=⟨_,Tryz.func8,by kernel_rfl,rfl⟩
theorem fn9:bI Tryz.prog 9:=⟨_,Tryz.func9,by kernel_rfl,rfl⟩
theorem U9:bI Tryz.prog 10:=⟨_,Tryz.func10,by kernel_rfl,rfl⟩
theorem U_:bI Tryz.prog 11:=⟨_,Tryz.func11,by kernel_rfl,rfl⟩
theorem U':bI Tryz.prog 12:=⟨_,Tryz.func12,by kernel_rfl,rfl⟩
theorem ah9:bI Tryz.prog 13:=⟨_,Tryz.func13,by kernel_rfl,rfl⟩
theorem I3:bI Tryz.prog 14:=⟨_,Tryz.func14,by kernel_rfl,rfl⟩
theorem Va:bI Tryz.prog 15:=⟨_,Tryz.func15,by kernel_rfl,rfl⟩
theorem ah_:bI Tryz.prog 16:=⟨_,Tryz.func16,by kernel_rfl,rfl⟩
theorem Vb:bI Tryz.prog 17:=⟨_,Tryz.func17,by kernel_rfl,rfl⟩
theorem E7:bI Tryz.prog 22:=⟨_,Tryz.func22,by kernel_rfl,rfl⟩
theorem ah':bI Tryz.prog 24:=⟨_,Tryz.func24,by kernel_rfl,rfl⟩
theorem aia:bI Tryz.prog 25:=⟨_,Tryz.func25,by kernel_rfl,rfl⟩
theorem aib:bI Tryz.prog 26:=⟨_,Tryz.func26,by kernel_rfl,rfl⟩
theorem aic:bI Tryz.prog 27:=⟨_,Tryz.func27,by kernel_rfl,rfl⟩
theorem aid:bI Tryz.prog 28:=⟨_,Tryz.func28,by kernel_rfl,rfl⟩
theorem aie:bI Tryz.prog 29:=⟨_,Tryz.func29,by kernel_rfl,rfl⟩
theorem aif:bI Tryz.prog 30:=⟨_,Tryz.func30,by kernel_rfl,rfl⟩
theorem E8:bI Tryz.prog 31:=⟨_,Tryz.func31,by kernel_rfl,rfl⟩
theorem Vc:bI Tryz.prog 32:=⟨_,Tryz.func32,by kernel_rfl,rfl⟩
theorem Vd:bI Tryz.prog 33:=⟨_,Tryz.func33,by kernel_rfl,rfl⟩
theorem Ve:bI Tryz.prog 34:=⟨_,Tryz.func34,by kernel_rfl,rfl⟩
theorem Vf:bI Tryz.prog 35:=⟨_,Tryz.func35,by kernel_rfl,rfl⟩
theorem E9:bI Tryz.prog 36:=⟨_,Tryz.func36,by kernel_rfl,rfl⟩
theorem yB:bI Tryz.prog 37:=⟨_,Tryz.func37,by kernel_rfl,rfl⟩
theorem BC:bI Tryz.prog 38:=⟨_,Tryz.func38,by kernel_rfl,rfl⟩
theorem aih:bI Tryz.prog 39:=⟨_,Tryz.func39,by kernel_rfl,rfl⟩
theorem aii:bI Tryz.prog 40:=⟨_,Tryz.func40,by kernel_rfl,rfl⟩
theorem aij:bI Tryz.prog 41:=⟨_,Tryz.func41,by kernel_rfl,rfl⟩
theorem aik:bI Tryz.prog 42:=⟨_,Tryz.func42,by kernel_rfl,rfl⟩
theorem ail:bI Tryz.prog 43:=⟨_,Tryz.func43,by kernel_rfl,rfl⟩
theorem I4:bI Tryz.prog 44:=⟨_,Tryz.func44,by kernel_rfl,rfl⟩
theorem aim:bI Tryz.prog 45:=⟨_,Tryz.func45,by kernel_rfl,rfl⟩
theorem yC:bI Tryz.prog 46:=⟨_,Tryz.func46,by kernel_rfl,rfl⟩
theorem vX:bI Tryz.prog 47:=⟨_,Tryz.func47,by kernel_rfl,rfl⟩
theorem Vg:bI Tryz.prog 48:=⟨_,Tryz.func48,by kernel_rfl,rfl⟩
theorem Vh:bI Tryz.prog 49:=⟨_,Tryz.func49,by kernel_rfl,rfl⟩
theorem yD:bI Tryz.prog 50:=⟨_,Tryz.func50,by kernel_rfl,rfl⟩
theorem I5:bI Tryz.prog 51:=⟨_,Tryz.func51,by kernel_rfl,rfl⟩
theorem Vi:bI Tryz.prog 52:=⟨_,Tryz.func52,by kernel_rfl,rfl⟩
theorem Vj:bI Tryz.prog 53:=⟨_,Tryz.func53,by kernel_rfl,rfl⟩
theorem E_:bI Tryz.prog 54:=⟨_,Tryz.func54,by kernel_rfl,rfl⟩
theorem ain:bI Tryz.prog 55:=⟨_,Tryz.func55,by kernel_rfl,rfl⟩
theorem yE:bI Tryz.prog 56:=⟨_,Tryz.func56,by kernel_rfl,rfl⟩
theorem I6:bI Tryz.prog 57:=⟨_,Tryz.func57,by kernel_rfl,rfl⟩
theorem Vk:bI Tryz.prog 58:=⟨_,Tryz.func58,by kernel_rfl,rfl⟩
theorem aio:bI Tryz.prog 59:=⟨_,Tryz.func59,by kernel_rfl,rfl⟩
theorem aip:bI Tryz.prog 64:=⟨_,Tryz.func64,by kernel_rfl,rfl⟩
theorem aiq:bI Tryz.prog 65:=⟨_,Tryz.func65,by kernel_rfl,rfl⟩
theorem I7:bI Tryz.prog 66:=⟨_,Tryz.func66,by kernel_rfl,rfl⟩
theorem air:bI Tryz.prog 67:=⟨_,Tryz.func67,by kernel_rfl,rfl⟩
theorem ais:bI Tryz.prog 68:=⟨_,Tryz.func68,by kernel_rfl,rfl⟩
theorem Vl:bI Tryz.prog 69:=⟨_,Tryz.func69,by kernel_rfl,rfl⟩
theorem ait:bI Tryz.prog 70:=⟨_,Tryz.func70,by kernel_rfl,rfl⟩
theorem aiu:bI Tryz.prog 71:=⟨_,Tryz.func71,by kernel_rfl,rfl⟩
theorem aiv:bI Tryz.prog 72:=⟨_,Tryz.func72,by kernel_rfl,rfl⟩
theorem aiw:bI Tryz.prog 73:=⟨_,Tryz.func73,by kernel_rfl,rfl⟩
theorem aix:bI Tryz.prog 74:=⟨_,Tryz.func74,by kernel_rfl,rfl⟩
theorem E':bI Tryz.prog 75:=⟨_,Tryz.func75,by kernel_rfl,rfl⟩
theorem aiy:bI Tryz.prog 76:=⟨_,Tryz.func76,by kernel_rfl,rfl⟩
theorem aiz:bI Tryz.prog 77:=⟨_,Tryz.func77,by kernel_rfl,rfl⟩
theorem Vm:bI Tryz.prog 78:=⟨_,Tryz.func78,by kernel_rfl,rfl⟩
theorem aiA:bI Tryz.prog 79:=⟨_,Tryz.func79,by kernel_rfl,rfl⟩
theorem I8:bI Tryz.prog 80:=⟨_,Tryz.func80,by kernel_rfl,rfl⟩
theorem aiB:bI Tryz.prog 81:=⟨_,Tryz.func81,by kernel_rfl,rfl⟩
theorem aiC:bI Tryz.prog 82:=⟨_,Tryz.func82,by kernel_rfl,rfl⟩
theorem aiD:bI Tryz.prog 83:=⟨_,Tryz.func83,by kernel_rfl,rfl⟩
theorem Vn:bI Tryz.prog 84:=⟨_,Tryz.func84,by kernel_rfl,rfl⟩
theorem aiE:bI Tryz.prog 85:=⟨_,Tryz.func85,by kernel_rfl,rfl⟩
theorem Fa:bI Tryz.prog 86:=⟨_,Tryz.func86,by kernel_rfl,rfl⟩
theorem Vo:bI Tryz.prog 87:=⟨_,Tryz.func87,by kernel_rfl,rfl⟩
theorem I9:bI Tryz.prog 88:=⟨_,Tryz.func88,by kernel_rfl,rfl⟩
theorem Vp:bI Tryz.prog 89:=⟨_,Tryz.func89,by kernel_rfl,rfl⟩
theorem Vq:bI Tryz.prog 90:=⟨_,Tryz.func90,by kernel_rfl,rfl⟩
theorem Vr:bI Tryz.prog 91:=⟨_,Tryz.func91,by kernel_rfl,rfl⟩
theorem Vs:bI Tryz.prog 92:=⟨_,Tryz.func92,by kernel_rfl,rfl⟩
theorem aiF:bI Tryz.prog 93:=⟨_,Tryz.func93,by kernel_rfl,rfl⟩
theorem aiG:bI Tryz.prog 94:=⟨_,Tryz.func94,by kernel_rfl,rfl⟩
theorem Fb:bI Tryz.prog 95:=⟨_,Tryz.func95,by kernel_rfl,rfl⟩
theorem Vt:bI Tryz.prog 96:=⟨_,Tryz.func96,by kernel_rfl,rfl⟩
theorem aiH:bI Tryz.prog 97:=⟨_,Tryz.func97,by kernel_rfl,rfl⟩
theorem aiI:bI Tryz.prog 98:=⟨_,Tryz.func98,by kernel_rfl,rfl⟩
theorem aiJ:bI Tryz.prog 99:=⟨_,Tryz.func99,by kernel_rfl,rfl⟩
theorem aiK:bI Tryz.prog 100:=⟨_,Tryz.func100,by kernel_rfl,rfl⟩
theorem Vu:bI Tryz.prog 101:=⟨_,Tryz.func101,by kernel_rfl,rfl⟩
theorem Vv:bI Tryz.prog 102:=⟨_,Tryz.func102,by kernel_rfl,rfl⟩
theorem Vw:bI Tryz.prog 103:=⟨_,Tryz.func103,by kernel_rfl,rfl⟩
theorem Vx:bI Tryz.prog 104:=⟨_,Tryz.func104,by kernel_rfl,rfl⟩
theorem aiL:bI Tryz.prog 105:=⟨_,Tryz.func105,by kernel_rfl,rfl⟩
theorem aiM:bI Tryz.prog 106:=⟨_,Tryz.func106,by kernel_rfl,rfl⟩
theorem aiN:bI Tryz.prog 119:=⟨_,Tryz.func119,by kernel_rfl,rfl⟩
theorem Vy:bI Tryz.prog 120:=⟨_,Tryz.func120,by kernel_rfl,rfl⟩
theorem Vz:bI Tryz.prog 121:=⟨_,Tryz.func121,by kernel_rfl,rfl⟩
theorem Fc:bI Tryz.prog 122:=⟨_,Tryz.func122,by kernel_rfl,rfl⟩
theorem aiO:bI Tryz.prog 123:=⟨_,Tryz.func123,by kernel_rfl,rfl⟩
theorem VA:bI Tryz.prog 124:=⟨_,Tryz.func124,by kernel_rfl,rfl⟩
theorem VB:bI Tryz.prog 125:=⟨_,Tryz.func125,by kernel_rfl,rfl⟩
theorem aiP:bI Tryz.prog 126:=⟨_,Tryz.func126,by kernel_rfl,rfl⟩
theorem aiQ:bI Tryz.prog 127:=⟨_,Tryz.func127,by kernel_rfl,rfl⟩
theorem aiR:bI Tryz.prog 128:=⟨_,Tryz.func128,by kernel_rfl,rfl⟩
theorem aiS:bI Tryz.prog 129:=⟨_,Tryz.func129,by kernel_rfl,rfl⟩
theorem VC:bI Tryz.prog 130:=⟨_,Tryz.func130,by kernel_rfl,rfl⟩
theorem aiT:bI Tryz.prog 131:=⟨_,Tryz.func131,by kernel_rfl,rfl⟩
theorem VD:bI Tryz.prog 132:=⟨_,Tryz.func132,by kernel_rfl,rfl⟩
theorem VE:bI Tryz.prog 133:=⟨_,Tryz.func133,by kernel_rfl,rfl⟩
theorem VF:bI Tryz.prog 134:=⟨_,Tryz.func134,by kernel_rfl,rfl⟩
theorem VG:bI Tryz.prog 135:=⟨_,Tryz.func135,by kernel_rfl,rfl⟩
theorem aiU:bI Tryz.prog 136:=⟨_,Tryz.func136,by kernel_rfl,rfl⟩
theorem VH:bI Tryz.prog 137:=⟨_,Tryz.func137,by kernel_rfl,rfl⟩
theorem VI:bI Tryz.prog 138:=⟨_,Tryz.func138,by kernel_rfl,rfl⟩
theorem I_:bI Tryz.prog 139:=⟨_,Tryz.func139,by kernel_rfl,rfl⟩
theorem Fe:bI Tryz.prog 140:=⟨_,Tryz.func140,by kernel_rfl,rfl⟩
theorem I':bI Tryz.prog 141:=⟨_,Tryz.func141,by kernel_rfl,rfl⟩
theorem aiV:bI Tryz.prog 142:=⟨_,Tryz.func142,by kernel_rfl,rfl⟩
theorem aiW:bI Tryz.prog 143:=⟨_,Tryz.func143,by kernel_rfl,rfl⟩
theorem yF:bI Tryz.prog 144:=⟨_,Tryz.func144,by kernel_rfl,rfl⟩
theorem aiX:bI Tryz.prog 145:=⟨_,Tryz.func145,by kernel_rfl,rfl⟩
theorem aiY:bI Tryz.prog 146:=⟨_,Tryz.func146,by kernel_rfl,rfl⟩
theorem VJ:bI Tryz.prog 155:=⟨_,Tryz.func155,by kernel_rfl,rfl⟩
theorem BD:bI Tryz.prog 157:=⟨_,Tryz.func157,by kernel_rfl,rfl⟩
theorem VK:bI Tryz.prog 158:=⟨_,Tryz.func158,by kernel_rfl,rfl⟩
theorem Ff:bI Tryz.prog 159:=⟨_,Tryz.func159,by kernel_rfl,rfl⟩
theorem aiZ:bI Tryz.prog 160:=⟨_,Tryz.func160,by kernel_rfl,rfl⟩
theorem VL:bI Tryz.prog 161:=⟨_,Tryz.func161,by kernel_rfl,rfl⟩
theorem ai0:bI Tryz.prog 162:=⟨_,Tryz.func162,by kernel_rfl,rfl⟩
theorem Ja:bI Tryz.prog 163:=⟨_,Tryz.func163,by kernel_rfl,rfl⟩
theorem ai1:bI Tryz.prog 164:=⟨_,Tryz.func164,by kernel_rfl,rfl⟩
theorem VM:bI Tryz.prog 165:=⟨_,Tryz.func165,by kernel_rfl,rfl⟩
theorem VN:bI Tryz.prog 166:=⟨_,Tryz.func166,by kernel_rfl,rfl⟩
theorem ai2:bI Tryz.prog 167:=⟨_,Tryz.func167,by kernel_rfl,rfl⟩
theorem ai3:bI Tryz.prog 168:=⟨_,Tryz.func168,by kernel_rfl,rfl⟩
theorem ai4:bI Tryz.prog 169:=⟨_,Tryz.func169,by kernel_rfl,rfl⟩
theorem ai5:bI Tryz.prog 170:=⟨_,Tryz.func170,by kernel_rfl,rfl⟩
theorem ai6:bI Tryz.prog 171:=⟨_,Tryz.func171,by kernel_rfl,rfl⟩
theorem Jb:bI Tryz.prog 172:=⟨_,Tryz.func172,by kernel_rfl,rfl⟩
theorem VO:bI Tryz.prog 173:=⟨_,Tryz.func173,by kernel_rfl,rfl⟩
theorem VP:bI Tryz.prog 174:=⟨_,Tryz.func174,by kernel_rfl,rfl⟩
theorem ai7:bI Tryz.prog 175:=⟨_,Tryz.func175,by kernel_rfl,rfl⟩
theorem ai8:bI Tryz.prog 176:=⟨_,Tryz.func176,by kernel_rfl,rfl⟩
theorem Jc:bI Tryz.prog 191:=⟨_,Tryz.func191,by kernel_rfl,rfl⟩
theorem ai9:bI Tryz.prog 192:=⟨_,Tryz.func192,by kernel_rfl,rfl⟩
theorem ai_:bI Tryz.prog 193:=⟨_,Tryz.func193,by kernel_rfl,rfl⟩
theorem ai':bI Tryz.prog 194:=⟨_,Tryz.func194,by kernel_rfl,rfl⟩
theorem VQ:bI Tryz.prog 195:=⟨_,Tryz.func195,by kernel_rfl,rfl⟩
theorem VR:bI Tryz.prog 196:=⟨_,Tryz.func196,by kernel_rfl,rfl⟩
theorem VS:bI Tryz.prog 204:=⟨_,Tryz.func204,by kernel_rfl,rfl⟩
theorem aja:bI Tryz.prog 205:=⟨_,Tryz.func205,by kernel_rfl,rfl⟩
theorem ajb:bI Tryz.prog 206:=⟨_,Tryz.func206,by kernel_rfl,rfl⟩
theorem ajc:bI Tryz.prog 208:=⟨_,Tryz.func208,by kernel_rfl,rfl⟩
theorem VT:bI Tryz.prog 209:=⟨_,Tryz.func209,by kernel_rfl,rfl⟩
theorem ajd:bI Tryz.prog 210:=⟨_,Tryz.func210,by kernel_rfl,rfl⟩
theorem VU:bI Tryz.prog 211:=⟨_,Tryz.func211,by kernel_rfl,rfl⟩
theorem aje:bI Tryz.prog 212:=⟨_,Tryz.func212,by kernel_rfl,rfl⟩
theorem VV:bI Tryz.prog 225:=⟨_,Tryz.func225,by kernel_rfl,rfl⟩
theorem ajf:bI Tryz.prog 226:=⟨_,Tryz.func226,by kernel_rfl,rfl⟩
end Go.Proofs.YtccnpbnokndeeaaGreatDoor
namespace Go.Proofs.YtccnpbnokndeeaaGreatDoor
open Go Go.Ab
def cM (n:Int):Prop:=-9223372036854775808≤n∧n≤9223372036854775807
theorem Jd (n:Int):IntKind.i64.wrap n=if n%18446744073709551616≥9223372036854775808 then n%18446744073709551616 -18446744073709551616 else n%18446744073709551616:=by
 simp [IntKind.wrap,IntKind.signed,IntKind.bits]
theorem ajg (n:Int):IntKind.u64.wrap n=n%18446744073709551616:=by
 simp [IntKind.wrap,IntKind.signed,IntKind.bits]
theorem ajh {n:Int} (h:cM n):IntKind.i64.wrap n=n:=by
 unfold cM at h;rw [Jd];split<;>omega
theorem Je {n:Int} (h1:-9223372036854775808≤n) (h2:n≤9223372036854775807):IntKind.i64.wrap n=n:=ajh ⟨h1,h2⟩
theorem VW (n:Int):cM (IntKind.i64.wrap n):=by unfold cM;rw [Jd];split<;>omega
structure Sp where
 a:Int
 b:Int
 deriving DecidableEq
structure Bx where
 x:Sp
 y:Sp
 z:Sp
 deriving DecidableEq
structure Df where
 k:Int
 b:Bx
 deriving DecidableEq
def bU (s:Sp):AV:=.agg [I s.a,I s.b]
def qZ (b:Bx):AV:=.agg [I b.x.a,I b.x.b,I b.y.a,I b.y.b,I b.z.a,I b.z.b]
def bM (d:Df):AV:=.agg [I d.k,I d.b.x.a,I d.b.x.b,I d.b.y.a,I d.b.y.b,I d.b.z.a,I d.b.z.b]
def Sp.ok (s:Sp):Prop:=cM s.a∧cM s.b
def Bx.ok (b:Bx):Prop:=b.x.ok∧b.y.ok∧b.z.ok
def Df.ok (d:Df):Prop:=cM d.k∧d.b.ok
def meet (s t:Sp):Sp:=if min s.b t.b≤max s.a t.a then⟨0,0⟩ else⟨max s.a t.a,min s.b t.b⟩
theorem aji {n:Int} (h:IntKind.i64.min≤n∧n≤IntKind.i64.max):cM n:=h
theorem VX {α:Type} {enc:α→AV} {ok:α→Prop}:∀{xs:List AV},(∀x,x∈xs→∃d,x=enc d∧ok d)→∃l:List α,xs=l.map enc∧∀d,d∈l→ok d
 |[],_=>⟨[],rfl,by simp⟩
 |x::xs,h=>by
  obtain⟨d,rfl,hd⟩:=h x (by simp);obtain⟨l,rfl,hl⟩:=VX (xs:=xs) fun y hy=>h y (by simp [hy])
  refine⟨d::l,rfl,?_⟩;intro e he;rcases List.mem_cons.1 he with rfl|he
  ·exact hd
  ·exact hl e he
theorem jY {cs:List AV} (h:dt (.int .i64) cs):∃n,cs=[I n]∧cM n:=by
 rw [dt] at h;obtain⟨n,rfl,h⟩:=h;exact⟨n,rfl,aji h⟩
def q8:Sh:=.struct [.int .i64,.int .i64]
def Jf:Sh:=.struct [q8,q8,q8]
def BE:Sh:=.struct [.int .i64,Jf]
theorem BF {cs:List AV} (h:dt q8 cs):∃s:Sp,cs=[I s.a,I s.b]∧s.ok:=by
 unfold q8 at h;rw [dt,dE] at h;obtain⟨x,y,rfl,h1,h2⟩:=h;rw [dE] at h2;obtain⟨y,z,rfl,h2,h3⟩:=h2;rw [dE] at h3;subst h3;obtain⟨a,rfl,ha⟩:=jY h1;obtain⟨b,rfl,hb⟩:=jY h2;exact⟨⟨a,b⟩,rfl,ha,hb⟩
theorem ajj {cs:List AV} (h:dt Jf cs):∃b:Bx,cs=[I b.x.a,I b.x.b,I b.y.a,I b.y.b,I b.z.a,I b.z.b]∧b.ok:=by
 unfold Jf at h;rw [dt,dE] at h;obtain⟨_,y,rfl,h1,h2⟩:=h;rw [dE] at h2;obtain⟨_,z,rfl,h2,h3⟩:=h2;rw [dE] at h3;obtain⟨_,t,rfl,h3,h4⟩:=h3;rw [dE] at h4;subst h4;obtain⟨a,rfl,ha⟩:=BF h1;obtain⟨b,rfl,hb⟩:=BF h2;obtain⟨c,rfl,hc⟩:=BF h3;exact⟨⟨a,b,c⟩,rfl,ha,hb,hc⟩
theorem ajk {cs:List AV} (h:dt BE cs):∃d:Df,cs=[I d.k,I d.b.x.a,I d.b.x.b,I d.b.y.a,I d.b.y.b,I d.b.z.a,I d.b.z.b]∧d.ok:=by
 unfold BE at h;rw [dt,dE] at h;obtain⟨_,y,rfl,h1,h2⟩:=h;rw [dE] at h2;obtain⟨_,z,rfl,h2,h3⟩:=h2;rw [dE] at h3;subst h3;obtain⟨k,rfl,hk⟩:=jY h1;obtain⟨b,rfl,hb⟩:=ajj h2;exact⟨⟨k,b⟩,rfl,hk,hb⟩
theorem of3 {s1 s2 s3:Sh} {xs:List AV} (h:Bp [s1,s2,s3] xs):∃a1 a2 a3,xs=[a1,a2,a3]∧Of s1 a1∧Of s2 a2∧Of s3 a3:=by
 match xs,h with
 |[a1,a2,a3],h=>exact⟨a1,a2,a3,rfl,h.1,h.2.1,h.2.2.1⟩
end Go.Proofs.YtccnpbnokndeeaaGreatDoor
namespace Go.Proofs.YtccnpbnokndeeaaGreatDoor
open Go Go.Ab
set_option maxRecDepth 20000
set_option maxHeartbeats 1000000
abbrev U (n:Int):Int:=IntKind.i64.wrap n
abbrev BG (n:Int):Int:=IntKind.u64.wrap n
abbrev vY (n:Int):Int:=IntKind.u8.wrap n
abbrev VY (n:Int):AV:=.sc (.int .u64 n)
abbrev U8 (n:Int):AV:=.sc (.int .u8 n)
abbrev aj {α:Type} (enc:α→AV) (l:List α):AV:=.sl (l.map enc)
def mI {α:Type} (enc:α→AV) (a b:α):Bool:=yt (enc a).cells (enc b).cells
theorem ajm {cs:List AV} (h:dt .bool cs):∃n,cs=[B n]∧True:=by
 rw [dt] at h;obtain⟨n,rfl⟩:=h;exact⟨n,rfl,trivial⟩
theorem ajn {cs:List AV} (h:dt .str cs):∃s:ByteArray,cs=[S s]∧s.size≤9223372036854775807:=by
 rw [dt] at h;obtain⟨s,rfl,h1⟩:=h;exact⟨s,rfl,h1⟩
theorem Jg {ef:List AV} (h:dt (.int .i64) ef):∃d,(Sh.int .i64).pack ef=I d∧cM d:=by
 obtain⟨n,rfl,h1⟩:=jY h;exact⟨n,rfl,h1⟩
theorem ajo {ef:List AV} (h:dt BE ef):∃d:Df,BE.pack ef=bM d∧d.ok:=by
 obtain⟨s,rfl,h1⟩:=ajk h;exact⟨s,rfl,h1⟩
theorem ur {α:Type} {enc:α→AV} {ok:α→Prop} {e:Sh} (iL:∀ef,dt e ef→∃d,e.pack ef=enc d∧ok d) {cs:List AV} (h:dt (.slice e) cs):∃l:List α,cs=[aj enc l]∧(l.length≤9223372036854775807∧∀d,d∈l→ok d):=by
 rw [dt] at h;obtain⟨xs,rfl,h1,h2⟩:=h
 obtain⟨l,rfl,h3⟩:=VX (enc:=enc) (ok:=ok) (xs:=xs) fun x hx=>by
  obtain⟨ef,rfl,hc⟩:=h2 x hx;exact iL ef hc
 exact⟨l,rfl,by rw [List.length_map] at h1;exact h1,h3⟩
theorem ajp {α:Type} {enc:α→AV} {ok:α→Prop} {e:Sh} (iL:∀ef,dt e ef→∃d,e.pack ef=enc d∧ok d) {ef:List AV} (h:dt (.slice e) ef):∃d:List α,(Sh.slice e).pack ef=aj enc d∧(d.length≤9223372036854775807∧∀x,x∈d→ok x):=by
 obtain⟨l,rfl,h1⟩:=ur iL h;exact⟨l,rfl,h1⟩
theorem Jh {α:Type} {enc:α→AV} {ok:α→Prop} {s:Sh} (h:∀cs,dt s cs→∃d,s.pack cs=enc d∧ok d) {a:AV} (ha:Of s a):∃d,a=enc d∧ok d:=by
 obtain⟨cs,rfl,hc⟩:=ha;exact h cs hc
structure a7 where
 X:Int
 Y:Int
 deriving DecidableEq
def bd (s:a7):AV:=.agg [I s.X,I s.Y]
def a7.ok (s:a7):Prop:=cM s.X∧cM s.Y
def vZ:Sh:=.struct [.int .i64,.int .i64]
theorem ajq {cs:List AV} (h:dt vZ cs):∃s:a7,cs=[I s.X,I s.Y]∧s.ok:=by
 unfold vZ at h;rw [dt] at h;rw [dE] at h;obtain⟨_,_,rfl,q0,h⟩:=h;rw [dE] at h;obtain⟨_,_,rfl,q1,h⟩:=h;rw [dE] at h;subst h;obtain⟨s0,rfl,k0⟩:=jY q0;obtain⟨s1,rfl,k1⟩:=jY q1;exact⟨⟨s0,s1⟩,rfl,k0,k1⟩
structure eJ where
 P_:a7
 Ok:Bool
 deriving DecidableEq
def cT (s:eJ):AV:=.agg [I s.P_.X,I s.P_.Y,B s.Ok]
def eJ.ok (s:eJ):Prop:=s.P_.ok∧True
def yG:Sh:=.struct [vZ,.bool]
theorem ajr {cs:List AV} (h:dt yG cs):∃s:eJ,cs=[I s.P_.X,I s.P_.Y,B s.Ok]∧s.ok:=by
 unfold yG at h;rw [dt] at h;rw [dE] at h;obtain⟨_,_,rfl,q0,h⟩:=h;rw [dE] at h;obtain⟨_,_,rfl,q1,h⟩:=h;rw [dE] at h;subst h;obtain⟨s0,rfl,k0⟩:=ajq q0;obtain⟨s1,rfl,k1⟩:=ajm q1;exact⟨⟨s0,s1⟩,rfl,k0,k1⟩
theorem ajs {a:AV} (h:Of yG a):∃s:eJ,a=cT s∧s.ok:=by
 obtain⟨cs,rfl,h⟩:=h;obtain⟨b,rfl,hb⟩:=ajr h;exact⟨b,rfl,hb⟩
theorem ajt {ef:List AV} (h:dt yG ef):∃d:eJ,(yG).pack ef=cT d∧d.ok:=ajs ⟨ef,rfl,h⟩
structure dc where
 Z:Int
 Read:(List eJ)
 deriving DecidableEq
def dy (s:dc):AV:=.agg [I s.Z,(aj cT) s.Read]
def dc.ok (s:dc):Prop:=cM s.Z∧(s.Read.length≤9223372036854775807∧∀d,d∈s.Read→d.ok)
def yH:Sh:=.struct [.int .i64,.slice yG]
theorem aju {cs:List AV} (h:dt yH cs):∃s:dc,cs=[I s.Z,(aj cT) s.Read]∧s.ok:=by
 unfold yH at h;rw [dt] at h;rw [dE] at h;obtain⟨_,_,rfl,q0,h⟩:=h;rw [dE] at h;obtain⟨_,_,rfl,q1,h⟩:=h;rw [dE] at h;subst h;obtain⟨s0,rfl,k0⟩:=jY q0;obtain⟨s1,rfl,k1⟩:=(ur (fun _=>ajt)) q1;exact⟨⟨s0,s1⟩,rfl,k0,k1⟩
theorem ajv {a:AV} (h:Of yH a):∃s:dc,a=dy s∧s.ok:=by
 obtain⟨cs,rfl,h⟩:=h;obtain⟨b,rfl,hb⟩:=aju h;exact⟨b,rfl,hb⟩
theorem ajw {ef:List AV} (h:dt yH ef):∃d:dc,(yH).pack ef=dy d∧d.ok:=ajv ⟨ef,rfl,h⟩
structure hJ where
 cB:(List dc)
 dA:(List Df)
 deriving DecidableEq
def v8 (s:hJ):AV:=.agg [(aj dy) s.cB,(aj bM) s.dA]
def hJ.ok (s:hJ):Prop:=(s.cB.length≤9223372036854775807∧∀d,d∈s.cB→d.ok)∧(s.dA.length≤9223372036854775807∧∀d,d∈s.dA→d.ok)
def Ji:Sh:=.struct [.slice yH,.slice BE]
theorem ajx {cs:List AV} (h:dt Ji cs):∃s:hJ,cs=[(aj dy) s.cB,(aj bM) s.dA]∧s.ok:=by
 unfold Ji at h;rw [dt] at h;rw [dE] at h;obtain⟨_,_,rfl,q0,h⟩:=h;rw [dE] at h;obtain⟨_,_,rfl,q1,h⟩:=h;rw [dE] at h;subst h;obtain⟨s0,rfl,k0⟩:=(ur (fun _=>ajw)) q0;obtain⟨s1,rfl,k1⟩:=(ur (fun _=>ajo)) q1;exact⟨⟨s0,s1⟩,rfl,k0,k1⟩
structure aQ where
 Name:ByteArray
 dB:Int
 dR:Int
 dM:Int
 dH:Int
 bQ:(List Int)
 da:(List Int)
 deriving DecidableEq
def bT (s:aQ):AV:=.agg [S s.Name,I s.dB,I s.dR,I s.dM,I s.dH,(aj I) s.bQ,(aj I) s.da]
def aQ.ok (s:aQ):Prop:=s.Name.size≤9223372036854775807∧cM s.dB∧cM s.dR∧cM s.dM∧cM s.dH∧(s.bQ.length≤9223372036854775807∧∀d,d∈s.bQ→cM d)∧(s.da.length≤9223372036854775807∧∀d,d∈s.da→cM d)
def yI:Sh:=.struct [.str,.int .i64,.int .i64,.int .i64,.int .i64,.slice (.int .i64),.slice (.int .i64)]
theorem ajy {cs:List AV} (h:dt yI cs):∃s:aQ,cs=[S s.Name,I s.dB,I s.dR,I s.dM,I s.dH,(aj I) s.bQ,(aj I) s.da]∧s.ok:=by
 unfold yI at h;rw [dt] at h;rw [dE] at h;obtain⟨_,_,rfl,q0,h⟩:=h;rw [dE] at h;obtain⟨_,_,rfl,q1,h⟩:=h;rw [dE] at h;obtain⟨_,_,rfl,q2,h⟩:=h;rw [dE] at h;obtain⟨_,_,rfl,q3,h⟩:=h;rw [dE] at h;obtain⟨_,_,rfl,q4,h⟩:=h;rw [dE] at h;obtain⟨_,_,rfl,q5,h⟩:=h;rw [dE] at h;obtain⟨_,_,rfl,q6,h⟩:=h;rw [dE] at h;subst h;obtain⟨s0,rfl,k0⟩:=ajn q0;obtain⟨s1,rfl,k1⟩:=jY q1;obtain⟨s2,rfl,k2⟩:=jY q2;obtain⟨s3,rfl,k3⟩:=jY q3;obtain⟨s4,rfl,k4⟩:=jY q4;obtain⟨s5,rfl,k5⟩:=(ur (fun _=>Jg)) q5;obtain⟨s6,rfl,k6⟩:=(ur (fun _=>Jg)) q6;exact⟨⟨s0,s1,s2,s3,s4,s5,s6⟩,rfl,k0,k1,k2,k3,k4,k5,k6⟩
theorem ajz {a:AV} (h:Of yI a):∃s:aQ,a=bT s∧s.ok:=by
 obtain⟨cs,rfl,h⟩:=h;obtain⟨b,rfl,hb⟩:=ajy h;exact⟨b,rfl,hb⟩
theorem ajA {ef:List AV} (h:dt yI ef):∃d:aQ,(yI).pack ef=bT d∧d.ok:=ajz ⟨ef,rfl,h⟩
structure iX where
 eE:Int
 Trim:Int
 fP:Int
 Step:Int
 deriving DecidableEq
def Fg (s:iX):AV:=.agg [I s.eE,I s.Trim,I s.fP,I s.Step]
def iX.ok (s:iX):Prop:=cM s.eE∧cM s.Trim∧cM s.fP∧cM s.Step
def Jj:Sh:=.struct [.int .i64,.int .i64,.int .i64,.int .i64]
theorem ajB {cs:List AV} (h:dt Jj cs):∃s:iX,cs=[I s.eE,I s.Trim,I s.fP,I s.Step]∧s.ok:=by
 unfold Jj at h;rw [dt] at h;rw [dE] at h;obtain⟨_,_,rfl,q0,h⟩:=h;rw [dE] at h;obtain⟨_,_,rfl,q1,h⟩:=h;rw [dE] at h;obtain⟨_,_,rfl,q2,h⟩:=h;rw [dE] at h;obtain⟨_,_,rfl,q3,h⟩:=h;rw [dE] at h;subst h;obtain⟨s0,rfl,k0⟩:=jY q0;obtain⟨s1,rfl,k1⟩:=jY q1;obtain⟨s2,rfl,k2⟩:=jY q2;obtain⟨s3,rfl,k3⟩:=jY q3;exact⟨⟨s0,s1,s2,s3⟩,rfl,k0,k1,k2,k3⟩
structure iY where
 fY:Int
 cU:Int
 gq:Int
 deriving DecidableEq
def Fh (s:iY):AV:=.agg [I s.fY,I s.cU,I s.gq]
def iY.ok (s:iY):Prop:=cM s.fY∧cM s.cU∧cM s.gq
def Jk:Sh:=.struct [.int .i64,.int .i64,.int .i64]
theorem ajC {cs:List AV} (h:dt Jk cs):∃s:iY,cs=[I s.fY,I s.cU,I s.gq]∧s.ok:=by
 unfold Jk at h;rw [dt] at h;rw [dE] at h;obtain⟨_,_,rfl,q0,h⟩:=h;rw [dE] at h;obtain⟨_,_,rfl,q1,h⟩:=h;rw [dE] at h;obtain⟨_,_,rfl,q2,h⟩:=h;rw [dE] at h;subst h;obtain⟨s0,rfl,k0⟩:=jY q0;obtain⟨s1,rfl,k1⟩:=jY q1;obtain⟨s2,rfl,k2⟩:=jY q2;exact⟨⟨s0,s1,s2⟩,rfl,k0,k1,k2⟩
structure l_ where
 Scan:hJ
 eu:(List aQ)
 ff:iX
 jz:iY
 yJ:Int
 yK:Int
 deriving DecidableEq
def Fi (s:l_):AV:=.agg [(aj dy) s.Scan.cB,(aj bM) s.Scan.dA,(aj bT) s.eu,I s.ff.eE,I s.ff.Trim,I s.ff.fP,I s.ff.Step,I s.jz.fY,I s.jz.cU,I s.jz.gq,I s.yJ,I s.yK]
def l_.ok (s:l_):Prop:=s.Scan.ok∧(s.eu.length≤9223372036854775807∧∀d,d∈s.eu→d.ok)∧s.ff.ok∧s.jz.ok∧cM s.yJ∧cM s.yK
def v_:Sh:=.struct [Ji,.slice yI,Jj,Jk,.int .i64,.int .i64]
theorem ajD {cs:List AV} (h:dt v_ cs):∃s:l_,cs=[(aj dy) s.Scan.cB,(aj bM) s.Scan.dA,(aj bT) s.eu,I s.ff.eE,I s.ff.Trim,I s.ff.fP,I s.ff.Step,I s.jz.fY,I s.jz.cU,I s.jz.gq,I s.yJ,I s.yK]∧s.ok:=by
 unfold v_ at h;rw [dt] at h;rw [dE] at h;obtain⟨_,_,rfl,q0,h⟩:=h;rw [dE] at h;obtain⟨_,_,rfl,q1,h⟩:=h;rw [dE] at h;obtain⟨_,_,rfl,q2,h⟩:=h;rw [dE] at h;obtain⟨_,_,rfl,q3,h⟩:=h;rw [dE] at h;obtain⟨_,_,rfl,q4,h⟩:=h;rw [dE] at h;obtain⟨_,_,rfl,q5,h⟩:=h;rw [dE] at h;subst h;obtain⟨s0,rfl,k0⟩:=ajx q0;obtain⟨s1,rfl,k1⟩:=(ur (fun _=>ajA)) q1;obtain⟨s2,rfl,k2⟩:=ajB q2;obtain⟨s3,rfl,k3⟩:=ajC q3;obtain⟨s4,rfl,k4⟩:=jY q4;obtain⟨s5,rfl,k5⟩:=jY q5;exact⟨⟨s0,s1,s2,s3,s4,s5⟩,rfl,k0,k1,k2,k3,k4,k5⟩
theorem ajE {a:AV} (h:Of v_ a):∃s:l_,a=Fi s∧s.ok:=by
 obtain⟨cs,rfl,h⟩:=h;obtain⟨b,rfl,hb⟩:=ajD h;exact⟨b,rfl,hb⟩
theorem ajF {ef:List AV} (h:dt v_ ef):∃d:l_,(v_).pack ef=Fi d∧d.ok:=ajE ⟨ef,rfl,h⟩
structure aH where
 X:Sp
 Y:Sp
 deriving DecidableEq
def a6 (s:aH):AV:=.agg [I s.X.a,I s.X.b,I s.Y.a,I s.Y.b]
def aH.ok (s:aH):Prop:=s.X.ok∧s.Y.ok
def Jl:Sh:=.struct [q8,q8]
theorem ajG {cs:List AV} (h:dt Jl cs):∃s:aH,cs=[I s.X.a,I s.X.b,I s.Y.a,I s.Y.b]∧s.ok:=by
 unfold Jl at h;rw [dt] at h;rw [dE] at h;obtain⟨_,_,rfl,q0,h⟩:=h;rw [dE] at h;obtain⟨_,_,rfl,q1,h⟩:=h;rw [dE] at h;subst h;obtain⟨s0,rfl,k0⟩:=BF q0;obtain⟨s1,rfl,k1⟩:=BF q1;exact⟨⟨s0,s1⟩,rfl,k0,k1⟩
structure eL where
 Kind:Int
 At:Int
 deriving DecidableEq
def de (s:eL):AV:=.agg [I s.Kind,I s.At]
def eL.ok (s:eL):Prop:=cM s.Kind∧cM s.At
def yL:Sh:=.struct [.int .i64,.int .i64]
theorem ajH {cs:List AV} (h:dt yL cs):∃s:eL,cs=[I s.Kind,I s.At]∧s.ok:=by
 unfold yL at h;rw [dt] at h;rw [dE] at h;obtain⟨_,_,rfl,q0,h⟩:=h;rw [dE] at h;obtain⟨_,_,rfl,q1,h⟩:=h;rw [dE] at h;subst h;obtain⟨s0,rfl,k0⟩:=jY q0;obtain⟨s1,rfl,k1⟩:=jY q1;exact⟨⟨s0,s1⟩,rfl,k0,k1⟩
theorem ajI {a:AV} (h:Of yL a):∃s:eL,a=de s∧s.ok:=by
 obtain⟨cs,rfl,h⟩:=h;obtain⟨b,rfl,hb⟩:=ajH h;exact⟨b,rfl,hb⟩
theorem ajJ {ef:List AV} (h:dt yL ef):∃d:eL,(yL).pack ef=de d∧d.ok:=ajI ⟨ef,rfl,h⟩
structure dq where
 Frame:aH
 aV:(List eL)
 deriving DecidableEq
def oi (s:dq):AV:=.agg [I s.Frame.X.a,I s.Frame.X.b,I s.Frame.Y.a,I s.Frame.Y.b,(aj de) s.aV]
def dq.ok (s:dq):Prop:=s.Frame.ok∧(s.aV.length≤9223372036854775807∧∀d,d∈s.aV→d.ok)
def v':Sh:=.struct [Jl,.slice yL]
theorem ajK {cs:List AV} (h:dt v' cs):∃s:dq,cs=[I s.Frame.X.a,I s.Frame.X.b,I s.Frame.Y.a,I s.Frame.Y.b,(aj de) s.aV]∧s.ok:=by
 unfold v' at h;rw [dt] at h;rw [dE] at h;obtain⟨_,_,rfl,q0,h⟩:=h;rw [dE] at h;obtain⟨_,_,rfl,q1,h⟩:=h;rw [dE] at h;subst h;obtain⟨s0,rfl,k0⟩:=ajG q0;obtain⟨s1,rfl,k1⟩:=(ur (fun _=>ajJ)) q1;exact⟨⟨s0,s1⟩,rfl,k0,k1⟩
theorem ajL {a:AV} (h:Of v' a):∃s:dq,a=oi s∧s.ok:=by
 obtain⟨cs,rfl,h⟩:=h;obtain⟨b,rfl,hb⟩:=ajK h;exact⟨b,rfl,hb⟩
theorem ajM {ef:List AV} (h:dt v' ef):∃d:dq,(v').pack ef=oi d∧d.ok:=ajL ⟨ef,rfl,h⟩
structure Fj where
 Fk:Int
 Core:Int
 BH:Int
 deriving DecidableEq
def Fj.ok (s:Fj):Prop:=cM s.Fk∧cM s.Core∧cM s.BH
structure ma where
 Id:ByteArray
 Log:ByteArray
 kO:ByteArray
 jf:Int
 a8:Bx
 q9:Int
 dA:(List Df)
 dH:Int
 Cell:Fj
 ajN:Bool
 BI:Int
 deriving DecidableEq
def Jm (s:ma):AV:=.agg [S s.Id,S s.Log,S s.kO,I s.jf,I s.a8.x.a,I s.a8.x.b,I s.a8.y.a,I s.a8.y.b,I s.a8.z.a,I s.a8.z.b,I s.q9,(aj bM) s.dA,I s.dH,I s.Cell.Fk,I s.Cell.Core,I s.Cell.BH,B s.ajN,I s.BI]
def ma.ok (s:ma):Prop:=s.Id.size≤9223372036854775807∧s.Log.size≤9223372036854775807∧s.kO.size≤9223372036854775807∧cM s.jf∧s.a8.ok∧cM s.q9∧(s.dA.length≤9223372036854775807∧∀d,d∈s.dA→d.ok)∧cM s.dH∧s.Cell.ok∧True∧cM s.BI
structure q_ where
 Name:ByteArray
 mb:Int
 VZ:Int
 V1:Int
 Safe:Int
 V2:Int
 V3:Int
 V4:Int
 V5:Int
 V6:Int
 V7:Int
 V8:Int
 Shrink:Int
 deriving DecidableEq
def ajO (s:q_):AV:=.agg [S s.Name,I s.mb,I s.VZ,I s.V1,I s.Safe,I s.V2,I s.V3,I s.V4,I s.V5,I s.V6,I s.V7,I s.V8,I s.Shrink]
def q_.ok (s:q_):Prop:=s.Name.size≤9223372036854775807∧cM s.mb∧cM s.VZ∧cM s.V1∧cM s.Safe∧cM s.V2∧cM s.V3∧cM s.V4∧cM s.V5∧cM s.V6∧cM s.V7∧cM s.V8∧cM s.Shrink
structure dx where
 Log:Int
 dY:Int
 gz:Int
 cU:Int
 Value:Int
 deriving DecidableEq
def V9 (s:dx):AV:=.agg [I s.Log,I s.dY,I s.gz,I s.cU,I s.Value]
def dx.ok (s:dx):Prop:=cM s.Log∧cM s.dY∧cM s.gz∧cM s.cU∧cM s.Value
structure V_ where
 ajP:Int
 Pattern:dq
 Value:Int
 deriving DecidableEq
def V_.ok (s:V_):Prop:=cM s.ajP∧s.Pattern.ok∧cM s.Value
structure cb where
 bY:Int
 Rows:(List Sp)
 deriving DecidableEq
def fD (s:cb):AV:=.agg [I s.bY,(aj bU) s.Rows]
def cb.ok (s:cb):Prop:=cM s.bY∧(s.Rows.length≤9223372036854775807∧∀d,d∈s.Rows→d.ok)
structure aG where
 aX:Int
 bL:cb
 deriving DecidableEq
def bK (s:aG):AV:=.agg [I s.aX,I s.bL.bY,(aj bU) s.bL.Rows]
def aG.ok (s:aG):Prop:=cM s.aX∧s.bL.ok
structure ra where
 gb:(List aG)
 dA:(List Df)
 eu:(List aQ)
 ff:iX
 jz:iY
 deriving DecidableEq
def V' (s:ra):AV:=.agg [(aj bK) s.gb,(aj bM) s.dA,(aj bT) s.eu,I s.ff.eE,I s.ff.Trim,I s.ff.fP,I s.ff.Step,I s.jz.fY,I s.jz.cU,I s.jz.gq]
def ra.ok (s:ra):Prop:=(s.gb.length≤9223372036854775807∧∀d,d∈s.gb→d.ok)∧(s.dA.length≤9223372036854775807∧∀d,d∈s.dA→d.ok)∧(s.eu.length≤9223372036854775807∧∀d,d∈s.eu→d.ok)∧s.ff.ok∧s.jz.ok
structure eH where
 Jn:Int
 jf:Int
 a8:Bx
 wc:Int
 deriving DecidableEq
def gR (s:eH):AV:=.agg [I s.Jn,I s.jf,I s.a8.x.a,I s.a8.x.b,I s.a8.y.a,I s.a8.y.b,I s.a8.z.a,I s.a8.z.b,I s.wc]
def eH.ok (s:eH):Prop:=cM s.Jn∧cM s.jf∧s.a8.ok∧cM s.wc
structure bq where
 kind:Int
 at_:Int
 gr:Int
 second:Int
 fQ:Bool
 bh:aH
 leaf:Int
 dC:aH
 gA:Bool
 fR:eH
 deriving DecidableEq
def a_ (s:bq):AV:=.agg [I s.kind,I s.at_,I s.gr,I s.second,B s.fQ,I s.bh.X.a,I s.bh.X.b,I s.bh.Y.a,I s.bh.Y.b,I s.leaf,I s.dC.X.a,I s.dC.X.b,I s.dC.Y.a,I s.dC.Y.b,B s.gA,I s.fR.Jn,I s.fR.jf,I s.fR.a8.x.a,I s.fR.a8.x.b,I s.fR.a8.y.a,I s.fR.a8.y.b,I s.fR.a8.z.a,I s.fR.a8.z.b,I s.fR.wc]
def bq.ok (s:bq):Prop:=cM s.kind∧cM s.at_∧cM s.gr∧cM s.second∧True∧s.bh.ok∧cM s.leaf∧s.dC.ok∧True∧s.fR.ok
structure Wa where
 Wb:(List aG)
 mc:(List Df)
 Wc:(List aQ)
 saw:iX
 ajR:iY
 length:Int
 nodes:(List bq)
 sk:(List Int)
 Wd:(List aH)
 deriving DecidableEq
def Wa.ok (s:Wa):Prop:=(s.Wb.length≤9223372036854775807∧∀d,d∈s.Wb→d.ok)∧(s.mc.length≤9223372036854775807∧∀d,d∈s.mc→d.ok)∧(s.Wc.length≤9223372036854775807∧∀d,d∈s.Wc→d.ok)∧s.saw.ok∧s.ajR.ok∧cM s.length∧(s.nodes.length≤9223372036854775807∧∀d,d∈s.nodes→d.ok)∧(s.sk.length≤9223372036854775807∧∀d,d∈s.sk→cM d)∧(s.Wd.length≤9223372036854775807∧∀d,d∈s.Wd→d.ok)
structure om where
 kerf:Int
 length:Int
 deriving DecidableEq
def We (s:om):AV:=.agg [I s.kerf,I s.length]
def om.ok (s:om):Prop:=cM s.kerf∧cM s.length
structure eQ where
 sm:aH
 jf:Int
 deriving DecidableEq
def ir (s:eQ):AV:=.agg [I s.sm.X.a,I s.sm.X.b,I s.sm.Y.a,I s.sm.Y.b,I s.jf]
def eQ.ok (s:eQ):Prop:=s.sm.ok∧cM s.jf
structure Jo where
 ajS:Int
 At:Int
 deriving DecidableEq
def Jo.ok (s:Jo):Prop:=cM s.ajS∧cM s.At
structure Wf where
 aX:Int
 eE:Int
 fP:Int
 Wg:(List Int)
 Wh:(List (List Int))
 fY:(List Int)
 cU:(List Int)
 deriving DecidableEq
def Wf.ok (s:Wf):Prop:=cM s.aX∧cM s.eE∧cM s.fP∧(s.Wg.length≤9223372036854775807∧∀d,d∈s.Wg→cM d)∧(s.Wh.length≤9223372036854775807∧∀d,d∈s.Wh→(d.length≤9223372036854775807∧∀d1,d1∈d→cM d1))∧(s.fY.length≤9223372036854775807∧∀d,d∈s.fY→cM d)∧(s.cU.length≤9223372036854775807∧∀d,d∈s.cU→cM d)
structure nr where
 gb:(List aG)
 dA:(List Df)
 eu:(List aQ)
 Pattern:dq
 ff:iX
 jz:iY
 deriving DecidableEq
def Jp (s:nr):AV:=.agg [(aj bK) s.gb,(aj bM) s.dA,(aj bT) s.eu,I s.Pattern.Frame.X.a,I s.Pattern.Frame.X.b,I s.Pattern.Frame.Y.a,I s.Pattern.Frame.Y.b,(aj de) s.Pattern.aV,I s.ff.eE,I s.ff.Trim,I s.ff.fP,I s.ff.Step,I s.jz.fY,I s.jz.cU,I s.jz.gq]
def nr.ok (s:nr):Prop:=(s.gb.length≤9223372036854775807∧∀d,d∈s.gb→d.ok)∧(s.dA.length≤9223372036854775807∧∀d,d∈s.dA→d.ok)∧(s.eu.length≤9223372036854775807∧∀d,d∈s.eu→d.ok)∧s.Pattern.ok∧s.ff.ok∧s.jz.ok
structure gB where
 z_:Sp
 yM:Int
 deriving DecidableEq
def mJ (s:gB):AV:=.agg [I s.z_.a,I s.z_.b,I s.yM]
def gB.ok (s:gB):Prop:=s.z_.ok∧cM s.yM
structure eX where
 product:aQ
 bh:aH
 length:Int
 we:(List gB)
 mc:(List Df)
 deriving DecidableEq
def Jq (s:eX):AV:=.agg [S s.product.Name,I s.product.dB,I s.product.dR,I s.product.dM,I s.product.dH,(aj I) s.product.bQ,(aj I) s.product.da,I s.bh.X.a,I s.bh.X.b,I s.bh.Y.a,I s.bh.Y.b,I s.length,(aj mJ) s.we,(aj bM) s.mc]
def eX.ok (s:eX):Prop:=s.product.ok∧s.bh.ok∧cM s.length∧(s.we.length≤9223372036854775807∧∀d,d∈s.we→d.ok)∧(s.mc.length≤9223372036854775807∧∀d,d∈s.mc→d.ok)
structure mK where
 from_:Int
 Fl:Int
 ok:Nat
 e:Int
 deriving DecidableEq
def BJ (s:mK):AV:=.agg [I s.from_,I s.Fl,.db s.ok [] [],I s.e]
structure dm where
 bh:aH
 level:Int
 deriving DecidableEq
def jg (s:dm):AV:=.agg [I s.bh.X.a,I s.bh.X.b,I s.bh.Y.a,I s.bh.Y.b,I s.level]
def dm.ok (s:dm):Prop:=s.bh.ok∧cM s.level
structure Wi where
 piece:Jo
 ajT:Int
 deriving DecidableEq
def Wi.ok (s:Wi):Prop:=s.piece.ok∧cM s.ajT
end Go.Proofs.YtccnpbnokndeeaaGreatDoor
end
