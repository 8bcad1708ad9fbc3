/- Texts for the law: Ab15, Ab16, Ab17, Ab18, Ab19, Ab20, Ab21, Ab22, Ab23, Ab24, Ab25, Ab26, Ab27, Ab29, Ab31, Tt, F1, Sh, Ty, Ab32. -/
import Derived.Test.YtccnpbnokndeeaaGreatDoorT1
import Derived.ProofKit
import Derived.OpenShut
import Derived.ChangeKeysEq
import Derived.Laws.BytesString
import Derived.Lib.AppendStr
import Derived.Lib.UnsafeStr
import Derived.Lib.Builder
import Derived.MapKept
import Derived.Test.YtccnpbnokndeeaaGreatDoorProg
import Derived.KernelRfl
import Derived.RangeFuncIn
import Derived.RangeFuncLeaves
import Derived.RangeFuncRecord
import Derived.RangeFuncSeq
import Derived.Shelf.Abstract
import Derived.WalkKit
import Derived.OwnWalkIn
import Derived.TacticsInMore
import Derived.LoopNIn
import Derived.LoopIn
import Derived.StillTactics
noncomputable section
open Option renaming bind→β
open Sum renaming inr→ι,inl→κ
namespace Go.Ab
open Go.RowKit
variable{lim:Nat}
section
variable{P:Program} {tt:TT} {o:Oper} {s:St} {e:dN}
theorem aag {T:Nat} {x:Operand} (ht:ff P tt) (ho:o.op=.load T x) (h:Ja tt T s (s.ev x)=some e):cM P o s e:=by
 unfold Ja at h;cases hT:lk T tt with
 |none=>simp [hT] at h
 |some D=>
  have hD:=ht T D hT;simp only [hT] at h;cases hx:s.ev x with
  |vp cs=>
   simp only [hx] at h;cases hv:rd D cs 0 with
   |none=>simp [hv] at h
   |some v=>simp only [hv,Option.some.injEq] at h;subst h;exact YA ho hD hx hv
  |ref b i off=>
   simp only [hx] at h;cases hb:lk b s.m with
   |none=>simp [hb] at h
   |some ok=>
    cases ok with
    |none=>simp [hb] at h
    |some k=>
     simp only [hb] at h;cases he:nH k.xs i with
     |none=>simp [he] at h
     |some ev=>
      simp only [he] at h;cases hv:rd D ev.cells off with
      |none=>simp [hv] at h
      |some v=>simp only [hv,Option.some.injEq] at h;subst h;exact Np ho hD hx hb (yq _ _ _ he) hv
  |_=>simp [hx] at h
theorem aah {T:Nat} {x y:Operand} (ht:ff P tt) (ho:o.op=.store T x y) (h:Jb tt T s (s.ev x) (s.ev y)=some e):cM P o s e:=by
 unfold Jb at h;cases hT:lk T tt with
 |none=>simp [hT] at h
 |some D=>
  have hD:=ht T D hT;simp only [hT] at h;cases hx:s.ev x with
  |ref b i off=>
   simp only [hx] at h;cases hb:lk b s.m with
   |none=>simp [hb] at h
   |some ok=>
    cases ok with
    |none=>simp [hb] at h
    |some k=>
     obtain⟨ty,bW,xs⟩:=k;simp only [hb] at h;cases he:nH xs i with
     |none=>simp [he] at h
     |some ev=>
      simp only [he] at h;have ep:s.ev y≠.bot:=by intro hq;rw [hq] at h;simp at h
      have h':(match Nat.beq (s.ev y).cells.length D.size&&(s.ev y).cells.all AV.k_ with
       |false=>none
       |true=>match tm ev off (s.ev y).cells with
        |none=>none
        |some e'=>match se xs i e' with
         |none=>none
         |some Fv=>some (⟨.bR [],[(b,some ⟨ty,bW,Fv⟩)],[b],[]⟩:dN))=some e:=by
       generalize s.ev y=q at h ep;cases q<;>first|exact absurd rfl ep|exact h
      cases hc:Nat.beq (s.ev y).cells.length D.size&&(s.ev y).cells.all AV.k_ with
      |false=>simp [hc] at h'
      |true=>
       simp only [hc] at h';simp only [Bool.and_eq_true] at hc;cases hu:tm ev off (s.ev y).cells with
       |none=>simp [hu] at h'
       |some e'=>
        simp only [hu] at h';cases hs:se xs i e' with
        |none=>simp [hs] at h'
        |some Fv=>
         simp only [hs,Option.some.injEq] at h';subst h';have:=Nq ho hD hx hb rfl ep hc.1 hc.2 (yq _ _ _ he) hu;simp only [Oe _ _ _ _ hs] at this;exact this
  |_=>simp [hx] at h
theorem aai {t j:Nat} {x:Operand} (ht:ff P tt) (ho:o.op=.fieldAddr t x j) (h:Jc tt t j (s.ev x)=some e):cM P o s e:=by
 unfold Jc at h;cases hT:lk t tt with
 |none=>simp [hT] at h
 |some D=>
  have hD:=ht t D hT;simp only [hT] at h;cases hk:D.k with
  |struct fs=>
   simp only [hk] at h;cases hj:vF fs j with
   |none=>simp [hj] at h
   |some p=>
    obtain⟨fo,fz⟩:=p;simp only [hj] at h;rw [Og] at hj;cases hz:Nat.blt 0 fz with
    |false=>simp [hz] at h
    |true=>
     simp only [hz] at h;cases hx:s.ev x with
     |ref b i off=>simp only [hx,Option.some.injEq] at h;subst h;exact YI ho hD hk hj hz hx
     |vp cs=>
      simp only [hx] at h;cases hl:kD cs fo with
      |none=>simp [hl] at h
      |some l=>simp only [hl,Option.some.injEq] at h;subst h;exact YJ ho hD hk hj hz hx hl
     |_=>simp [hx] at h
  |_=>simp [hk] at h
theorem aaj {t:Nat} {x y:Operand} (ht:ff P tt) (ho:o.op=.indexAddr t x y) (h:Jd tt t s (s.ev x) (s.ev y)=some e):cM P o s e:=by
 unfold Jd at h;cases hT:lk t tt with
 |none=>simp [hT] at h
 |some D=>
  have hD:=ht t D hT;simp only [hT] at h;cases hy:s.ev y with
  |sc v=>
   cases v with
   |int k i=>
    simp only [hy] at h;cases hk:D.k with
    |slice el=>
     simp only [hk] at h;cases hE:lk el tt with
     |none=>simp [hE] at h
     |some E=>
      have Bz:=ht el E hE;simp only [hE] at h;cases hx:s.ev x with
      |sl xs=>
       simp only [hx] at h;cases hn:sf i xs.length with
       |none=>simp [hn] at h
       |some n=>
        simp only [hn] at h;obtain⟨h1,h2,h3⟩:=Ft hn;cases hg:nH xs n with
        |none=>simp [hg] at h
        |some ev=>
         simp only [hg] at h;cases hb:Nat.beq ev.cells.length E.size with
         |false=>simp [hb] at h
         |true=>simp only [hb,Option.some.injEq] at h;subst h;exact Nt ho hD hk Bz hx hy h1 (by rw [h3];exact yq _ _ _ hg) hb
      |arr b off len=>
       simp only [hx] at h;cases hn:sf i len with
       |none=>simp [hn] at h
       |some n=>
        simp only [hn] at h;obtain⟨h1,h2,h3⟩:=Ft hn;cases hb:lk b s.m with
        |none=>simp [hb] at h
        |some ok=>
         cases ok with
         |none=>simp [hb] at h
         |some bk=>
          simp only [hb] at h;cases hz:Nat.beq bk.bW E.size with
          |false=>simp [hz] at h
          |true=>
           simp only [hz,Option.some.injEq] at h;subst h;have:=Ik ho hD hk Bz hx hy hb hz h1 h2;rwa [h3] at this
      |_=>simp [hx] at h
    |array n el=>
     simp only [hk] at h;cases hE:lk el tt with
     |none=>simp [hE] at h
     |some E=>
      have Bz:=ht el E hE;simp only [hE] at h;cases hn:sf i n with
      |none=>simp [hn] at h
      |some q=>
       simp only [hn] at h;obtain⟨h1,h2,h3⟩:=Ft hn;cases hx:s.ev x with
       |ref b j off=>
        simp only [hx,Option.some.injEq] at h;subst h;have:=YK ho hD hk Bz hx hy h1 h2;rwa [h3] at this
       |vp cs=>
        simp only [hx] at h;cases hl:kD cs (q*E.size) with
        |none=>simp [hl] at h
        |some l=>simp only [hl,Option.some.injEq] at h;subst h;exact YL ho hD hk Bz hx hy h1 h2 (by rw [h3];exact hl)
       |_=>simp [hx] at h
    |_=>simp [hk] at h
   |_=>simp [hy] at h
  |_=>simp [hy] at h
theorem aak {t:Nat} {parts:Array (Nat×Operand)} (ht:ff P tt) (ho:o.op=.build t parts) (h:Je tt t s parts=some e):cM P o s e:=by
 unfold Je at h;cases hT:lk t tt with
 |none=>simp [hT] at h
 |some D=>
  have hD:=ht t D hT;simp only [hT] at h;cases hp:sd s parts.toList with
  |none=>simp [hp] at h
  |some ps=>
   simp only [hp] at h;have Oh:=I_ s _ _ hp;cases hk:D.k with
   |struct fs=>
    simp only [hk] at h;cases hz:EW fs with
    |false=>simp [hz] at h
    |true=>
     simp only [hz] at h;cases hl:nC (fun j=>fs[j]?) D.zero.cells ps with
     |none=>simp [hl] at h
     |some l=>simp only [hl,Option.some.injEq] at h;subst h;exact YP ho hD hk hz (by rw [Oh];exact hl)
   |array n el=>
    simp only [hk] at h;cases hE:lk el tt with
    |none=>simp [hE] at h
    |some E=>
     simp only [hE] at h;cases hl:nC (fun j=>some (j*E.size,E.size)) D.zero.cells ps with
     |none=>simp [hl] at h
     |some l=>simp only [hl,Option.some.injEq] at h;subst h;exact YQ ho hD hk (ht el E hE) (by rw [Oh];exact hl)
   |_=>simp [hk] at h
theorem aal {t len:Nat} {parts:Array (Nat×Operand)} {dst:Option Nat} (ht:ff P tt) (ho:o.op=.buildSlice t len parts) (h:Jf tt t len s parts dst=some e):cM P o s e:=by
 unfold Jf at h;cases dst with
 |none=>simp at h
 |some d=>
  simp only at h;cases hT:lk t tt with
  |none=>simp [hT] at h
  |some D=>
   have hD:=ht t D hT;simp only [hT] at h;cases hk:D.k with
   |slice el=>
    simp only [hk] at h;cases hE:lk el tt with
    |none=>simp [hE] at h
    |some E=>
     simp only [hE] at h;cases hz:Nat.blt 0 E.size&&Nat.ble (len*E.size) 16777216 with
     |false=>simp [hz] at h
     |true=>
      simp only [hz] at h;simp only [Bool.and_eq_true] at hz;cases hp:sd s parts.toList with
      |none=>simp [hp] at h
      |some ps=>
       simp only [hp] at h;cases hl:nC (fun j=>some (j*E.size,E.size)) (q9 E.zero.cells len) ps with
       |none=>simp [hl] at h
       |some l=>
        simp only [hl] at h;cases hg:group E.k.isAgg E.size len l with
        |none=>simp [hg] at h
        |some xs=>
         simp only [hg,Option.some.injEq] at h;subst h;exact Zd ho hD hk (ht el E hE) hz.1 hz.2 (by rw [I_ s _ _ hp];exact hl) hg
   |_=>simp [hk] at h
theorem aam {op:BinOp} {t ty:Nat} {x y:Operand} (ho:o.op=.binOp op t x y ty) (h:Jg op (s.ev x) (s.ev y)=some e):cM P o s e:=by
 unfold Jg at h;split at h
 ·rename_i k a k' b hx hy;split at h
  ·split at h
   ·cases h;exact Y0 ho hx hy (Fu ‹_›).2
   ·cases h
  ·split at h
   ·cases h;exact Y1 ho hx hy (Fu ‹_›).2
   ·cases h
  ·split at h
   ·cases h
   ·rename_i hk;have:=I' hk;subst this;split at h
    ·split at h
     ·cases h;exact Nz ho hx hy (Fu ‹_›).1
     ·cases h
    ·split at h
     ·cases h;exact NA ho hx hy (Fu ‹_›).1
     ·cases h
    ·split at h
     ·cases h;exact YZ ho hx hy ‹_›
     ·cases h
 ·split at h
  ·cases h;exact NB ho ‹_› ‹_› ‹_›
  ·cases h
 ·cases h
theorem Oi {b:Builtin} {args:Array Operand} {ga:Array TypeId} {l:List AV} (ht:ff P tt) (ho:o.op=l0 b args ga) (hl:args.toList.map s.ev=l) (h:Fw tt b l ga.toList=some e):cM P o s e:=by
 obtain⟨args⟩:=args;obtain⟨ga⟩:=ga;unfold Fw at h;split at h
 ·rename_i v t Fy
  match args,hl with
  |[x],hl=>
   simp at hl;simp only at Fy;cases hT:lk t tt with
   |none=>simp [hT] at h
   |some D=>
    have hD:=ht t D hT;simp only [hT] at h;subst Fy;split at h
    ·split at h
     ·cases h;exact Y6 ho hD ‹_› hl ‹_›
     ·cases h
    ·split at h
     ·cases h;exact Y7 ho hD ‹_› hl
     ·cases h
    ·cases h;exact Y8 ho hD ‹_›
    ·cases h
 ·match args,hl with
  |[x,y],hl=>
   simp at hl;split at h
   ·rename_i hk;have:=I' hk;subst this;cases h;exact Y9 ho hl.1 hl.2
   ·cases h
  |[],hl=>simp at hl
  |[_],hl=>simp at hl
  |_::_::_::_,hl=>simp at hl
 ·match args,hl with
  |[x,y],hl=>
   simp at hl;split at h
   ·rename_i hk;have:=I' hk;subst this;cases h;exact Y_ ho hl.1 hl.2
   ·cases h
  |[],hl=>simp at hl
  |[_],hl=>simp at hl
  |_::_::_::_,hl=>simp at hl
 ·cases h
theorem aan (ht:ff P tt) (h:Fx tt o s=some e):cM P o s e:=by
 unfold Fx at h;split at h
 ·rename_i x ho;split at h
  ·cases h;exact Yu ho (force_eq ‹_›)
  ·cases h
 ·rename_i x ho;split at h
  ·cases h;exact Yv ho (force_eq ‹_›)
  ·cases h
 ·rename_i x y z ho;split at h
  ·split at h
   ·cases h;exact Nl (b:=true) ho ‹_› (force_eq ‹_›)
   ·cases h
  ·split at h
   ·cases h;exact Nl (b:=false) ho ‹_› (force_eq ‹_›)
   ·cases h
  ·cases h
 ·rename_i T ho;split at h
  ·cases h
  ·split at h
   ·cases h
   ·split at h
    ·cases h;exact Yy ho (ht _ _ ‹_›) ‹_›
    ·cases h
 ·rename_i T x ho;split at h
  ·cases h
  ·split at h
   ·cases h
   ·rename_i k size bytes zero hT;have ep:s.ev x≠.bot:=by intro hq;rw [hq] at h;simp at h
    generalize hq:s.ev x=q at h ep;split at h
    ·exact absurd rfl ep
    ·split at h
     ·rename_i hc;simp only [Bool.and_eq_true] at hc;split at h
      ·rename_i v hv;have:=force_eq hv;subst this;cases h;exact Yz ho (ht _ _ hT) hq ep hc.1 hc.2
      ·cases h
     ·cases h
 ·exact aag ht ‹_› h
 ·exact aah ht ‹_› h
 ·exact aai ht ‹_› h
 ·exact aaj ht ‹_› h
 ·exact aak ht ‹_› h
 ·exact aal ht ‹_› h
 ·split at h
  ·split at h
   ·cases h;exact YW ‹_› ‹_› (yq _ _ _ ‹_›)
   ·cases h
  ·cases h
 ·exact aam ‹_› h
 ·split at h
  ·split at h
   ·cases h;exact Y3 ‹_› ‹_› ‹_›
   ·cases h
  ·cases h
 ·split at h
  ·split at h
   ·cases h;exact Y4 ‹_› (ht _ _ ‹_›) (ht _ _ ‹_›) ‹_› ‹_› ‹_›
   ·cases h
  ·cases h
 ·split at h
  ·cases h
  ·split at h
   ·split at h
    ·cases h
    ·split at h
     ·cases h
     ·rename_i hn;obtain⟨h1,h2,h3⟩:=Ft hn;split at h
      ·cases h;exact Ny ‹_› (ht _ _ ‹_›) ‹_› (ht _ _ ‹_›) ‹_› ‹_› h1 h2 (by rw [h3];assumption)
      ·cases h
   ·cases h
 ·split at h
  ·split at h
   ·cases h
   ·split at h
    ·cases h
    ·cases h;exact Y' ‹_› (tJ s _ _ ‹_›) (tJ s _ _ ‹_›)
  ·cases h
 ·rename_i c ho;obtain⟨callee,args,ga⟩:=c;dsimp only at h;split at h
  ·split at h
   ·cases h
   ·exact Oi ht ho (tJ s _ _ ‹_›) h
  ·cases h
 ·cases h
def mJ (s:St):List Nat→Bool
 |[]=>true
 |b::l=>match lk b s.m with
  |none=>Nat.blt b 1000&&mJ s l
  |some _=>false
theorem BA:∀{l:List Nat},mJ s l=true→∀b∈l,Fr s b
 |b::l,h,b',hb=>by
  simp only [mJ] at h;cases hq:lk b s.m with
  |some _=>simp [hq] at h
  |none=>
   simp only [hq,Bool.and_eq_true] at h;rcases List.mem_cons.1 hb with rfl|hb
   ·exact⟨hq,by simpa using h.1⟩
   ·exact BA h.2 b' hb
def Go (P:Program) (ops:Array Oper) (draw:Bool) (Q:St→Prop) (l:List Oper) (s:St) (acc:List (Option dN)):Prop:=
 ∃r,r.length=l.length∧(draw=true→vl ops (items 0 ops.toList (acc.reverse++r))=true)∧∀i,gN P ops Q (items i l r) s
variable{ops:Array Oper} {draw:Bool} {Q:St→Prop} {acc:List (Option dN)} {l:List Oper}
theorem aA (hd:draw=true→vl ops (items 0 ops.toList acc.reverse)=true) (h:Q s):Go P ops draw Q [] s acc:=
 ⟨[],rfl,by simpa using hd,fun _=>h⟩
theorem Oj (hg:dV ops s o=some true) (ha:cM P o s e) (hn:mJ s e.nw=true) (h:Go P ops draw Q l (s.app o.dst e) (some e::acc)):Go P ops draw Q (o::l) s acc:=by
 obtain⟨r,h1,h2,h3⟩:=h;refine⟨some e::r,by simp [h1],by simpa using h2,fun i=>⟨⟨hg,ha,BA hn⟩,h3 (i+1)⟩⟩
theorem aao (hg:dV ops s o=some false) (h:Go P ops draw Q l (s.app o.dst E9) (none::acc)):Go P ops draw Q (o::l) s acc:=by
 obtain⟨r,h1,h2,h3⟩:=h;exact⟨none::r,by simp [h1],by simpa using h2,fun i=>⟨hg,h3 (i+1)⟩⟩
def fB (n:Nat) (t:List (Nat×AV)) (dst:Option Nat) (v:AV):Option (List (Nat×AV)):=
 match dst with
 |none=>some t
 |some d=>match Nat.blt d n with
  |true=>some ((d,v)::t)
  |false=>some t
def mc:Mem→Mem→Option Mem
 |[],m=>some m
 |p::l,m=>match mc l m with
  |some r=>some (p::r)
  |none=>none
theorem Jh {n:Nat} {t t':List (Nat×AV)} {m:Mem} {dst:Option Nat} {v:AV} (h:fB n t dst v=some t'):(St.put ⟨n,t,m⟩ dst v).t=t':=by
 unfold fB at h;unfold St.put;cases dst with
 |none=>simpa using h
 |some d=>
  dsimp only at h⊢;cases hb:Nat.blt d n with
  |true=>rw [hb] at h;simpa using h
  |false=>rw [hb] at h;simpa using h
theorem Ji:∀{w m r:Mem},mc w m=some r→w++m=r
 |[],m,r,h=>by simpa [mc] using h
 |p::l,m,r,h=>by
  simp only [mc] at h;cases h1:mc l m with
  |none=>simp [h1] at h
  |some q=>simp [h1] at h;subst h;simp [Ji h1]
def pb (tt:TT) (ops:Array Oper):Nat→List Oper→Nat→List (Nat×AV)→Mem→List (Option dN)→Option (List Oper×List (Nat×AV)×Mem×List (Option dN))
 |0,l,_,t,m,acc=>some (l,t,m,acc)
 |_+1,[],_,_,_,_=>none
 |k+1,o::l,n,t,m,acc=>match dV ops ⟨n,t,m⟩ o with
  |some true=>match Fx tt o ⟨n,t,m⟩ with
   |some ⟨v,wr,ac,nw⟩=>match mJ ⟨n,t,m⟩ nw with
    |true=>match fB n t o.dst v with
     |some t'=>match mc wr m with
      |some m'=>pb tt ops k l n t' m' (some ⟨v,wr,ac,nw⟩::acc)
      |none=>none
     |none=>none
    |false=>none
   |none=>none
  |some false=>match fB n t o.dst (.bR []) with
   |some t'=>pb tt ops k l n t' m (none::acc)
   |none=>none
  |none=>none
theorem H9 (ht:ff P tt):∀(k:Nat) {l:List Oper} {n:Nat} {t:List (Nat×AV)} {m:Mem} {acc:List (Option dN)} {l':List Oper} {t':List (Nat×AV)} {m':Mem} {my:List (Option dN)},pb tt ops k l n t m acc=some (l',t',m',my)→Go P ops draw Q l' ⟨n,t',m'⟩ my→Go P ops draw Q l ⟨n,t,m⟩ acc
 |0,l,n,t,m,acc,l',t',m',my,h,hg=>by simp [pb] at h;obtain⟨rfl,rfl,rfl,rfl⟩:=h;exact hg
 |k+1,[],n,t,m,acc,l',t',m',my,h,hg=>by simp [pb] at h
 |k+1,o::l,n,t,m,acc,l',t',m',my,h,hg=>by
  simp only [pb] at h;cases h1:dV ops ⟨n,t,m⟩ o with
  |none=>simp [h1] at h
  |some b=>
   cases b with
   |false=>
    simp only [h1] at h;cases h4:fB n t o.dst (.bR []) with
    |none=>simp [h4] at h
    |some t1=>
     simp only [h4] at h;refine aao h1 ?_;have e:St.app ⟨n,t,m⟩ o.dst E9=⟨n,t1,m⟩:=by simp only [St.app,E9,Jh (m:=m) h4,List.nil_append]
     rw [e];exact H9 ht k h hg
   |true=>
    simp only [h1] at h;cases h2:Fx tt o ⟨n,t,m⟩ with
    |none=>simp [h2] at h
    |some e=>
     obtain⟨v,wr,ac,nw⟩:=e;simp only [h2] at h;cases h3:mJ ⟨n,t,m⟩ nw with
     |false=>simp [h3] at h
     |true=>
      simp only [h3] at h;cases h4:fB n t o.dst v with
      |none=>simp [h4] at h
      |some t1=>
       simp only [h4] at h;cases h5:mc wr m with
       |none=>simp [h5] at h
       |some m1=>
        simp only [h5] at h;refine Oj h1 (aan ht h2) h3 ?_;have e:St.app ⟨n,t,m⟩ o.dst ⟨v,wr,ac,nw⟩=⟨n,t1,m1⟩:=by simp only [St.app,Jh (m:=m) h4,Ji h5]
        rw [e];exact H9 ht k h hg
theorem eL {o:Oper} {n:Nat} {t t':List (Nat×AV)} {m m':Mem} {v:AV} {wr:Mem} {ac nw:List Nat} (hg:dV ops ⟨n,t,m⟩ o=some true) (ha:cM P o ⟨n,t,m⟩ ⟨v,wr,ac,nw⟩) (hn:mJ ⟨n,t,m⟩ nw=true) (hp:fB n t o.dst v=some t') (hm:mc wr m=some m')
  (h:Go P ops draw Q l ⟨n,t',m'⟩ (some ⟨v,wr,ac,nw⟩::acc)):Go P ops draw Q (o::l) ⟨n,t,m⟩ acc:=by
 refine Oj hg ha hn ?_;have e:St.app ⟨n,t,m⟩ o.dst ⟨v,wr,ac,nw⟩=⟨n,t',m'⟩:=by simp only [St.app,Jh (m:=m) hp,Ji hm]
 rw [e];exact h
theorem eQ {id:Nat} {Q:Exit→St→Prop} (bX:P.follows .mixedOrders=true) (h:Go P ops draw (Q .normal) ops.toList s []):dO P lim (.region id ops draw) Q s:=by
 obtain⟨r,h1,h2,h3⟩:=h;exact ZX bX h1.symm (by simpa using h2) (h3 0)
def p8:Nat→List AV→Option (List (Nat×AV))
 |_,[]=>some []
 |k,a::l=>match force a with
  |none=>none
  |some v=>match p8 (k+1) l with
   |none=>none
   |some r=>some ((k,v)::r)
theorem yr:∀{k:Nat} {l:List AV} {r:List (Nat×AV)},p8 k l=some r→tC k l=r
 |k,[],r,h=>by simp [p8] at h;subst h;rfl
 |k,a::l,r,h=>by
  simp only [p8] at h;cases h1:force a with
  |none=>simp [h1] at h
  |some v=>
   cases h2:p8 (k+1) l with
   |none=>simp [h1,h2] at h
   |some q=>simp [h1,h2] at h;subst h;simp [tC,yr h2,force_eq h1]
theorem bm {f n:Nat} {fn:Func} {body:Code} {args:List AV} {M:Mem} {r:AV} {M':Mem} {t:List (Nat×AV)} (hf:P.funcs[f]?=some fn) (hb:fn.body=some body) (hn:fn.ntmps=n) (hlen:Nat.ble args.length n=true) (hM:tD M=true) (ht:p8 0 args=some t)
  (h:∀lim,dO P lim body (oc (mz P fn M r M')) ⟨n,t,M⟩):Holds P f args M r M':=
 Z0 hf hb hn hlen hM (by rw [yr ht];exact h)
def bf (P:Program) (f:Nat):Prop:=∃fn,P.funcs[f]?=some fn∧(fn.name== "runtime.NumGoroutine")=false∧fn.body.isNone=false
mutual
theorem aB {m:Mem} {ρ:cC}:∀(a:AV),eE a=true→bE m ρ a a
 |.bot,_=>by simp [bE]
 |.sc v,_=>by
  simp only [bE];unfold tz;split
  ·simp_all
  ·simp_all
  ·rfl
 |.bF,_=>by simp [bE]
 |.agg cs,h=>by simp only [bE];exact yt cs (by simpa [eE] using h)
 |.bR cs,h=>by simp only [bE];exact yt cs (by simpa [eE] using h)
 |.sl xs,_=>by simp [bE]
 |.vp cs,_=>by simp [bE]
 |.ref _ _ _,h=>by simp [eE] at h
 |.arr _ _ _,h=>by simp [eE] at h
 |.cE _ a b,h=>by
  simp only [eE,Bool.and_eq_true] at h;simp only [bE];exact⟨trivial,yt a h.1,yt b h.2⟩
 |.iQ _ _ _,h=>by simp [eE] at h
 |.jd _,_=>by simp [bE]
theorem yt {m:Mem} {ρ:cC}:∀(l:List AV),ra l=true→gb m ρ l l
 |[],_=>by simp [gb]
 |a::l,h=>by
  simp only [ra,Bool.and_eq_true] at h;simp only [gb];exact⟨aB a h.1,yt l h.2⟩
end
theorem oG {o:Oper} {n f:Nat} {t t':List (Nat×AV)} {m:Mem} {xs:Array Operand} {ga:Array TypeId} {gr args:List AV} {L:Mem} {r v:AV} (hf:bf P f) (H:Holds P f args [] r []) (hg:dV ops ⟨n,t,m⟩ o=some true) (ho:o.op=pw (.func f) xs ga) (px:oF ⟨n,t,m⟩ xs.toList=some gr)
  (hL:mF [] m L) (fq:gb L [] gr args) (hv:force r=some v) (hr:eE v=true) (mG:L≠[]→hZ v=true) (hp:fB n t o.dst v=some t') (h:Go P ops draw Q l ⟨n,t',m⟩ (some ⟨v,[],L.map (·.1),[]⟩::acc)):Go P ops draw Q (o::l) ⟨n,t,m⟩ acc:=by
 obtain⟨fn,h1,h2,h3⟩:=hf;have Jj:=force_eq hv;subst Jj;refine eL hg (Fq (M:=[]) (M':=[]) (L:=L) (W:=[]) (ρ:=[]) (σ:=[]) ho h1 h2 h3 rfl (by rw [tJ _ _ _ px];simp) H hL fq rfl rfl trivial rfl rfl trivial (aB r hr) rfl (fun ep=>⟨mG ep,trivial⟩)) rfl hp rfl h
theorem aM {o:Oper} {n f:Nat} {t t':List (Nat×AV)} {m:Mem} {xs:Array Operand} {ga:Array TypeId} {gr:List AV} {r v:AV} (hf:bf P f) (H:Holds P f gr [] r []) (hg:dV ops ⟨n,t,m⟩ o=some true) (ho:o.op=pw (.func f) xs ga) (px:oF ⟨n,t,m⟩ xs.toList=some gr)
  (fq:ra gr=true) (hv:force r=some v) (hr:eE v=true) (hp:fB n t o.dst v=some t') (h:Go P ops draw Q l ⟨n,t',m⟩ (some ⟨v,[],[],[]⟩::acc)):Go P ops draw Q (o::l) ⟨n,t,m⟩ acc:=
 oG hf H hg ho px (L:=[]) trivial (yt gr fq) hv hr (fun h=>absurd rfl h) hp h
theorem ak {next:St→Prop} {Q:Exit→St→Prop} (h:next s):iA next Q .normal s:=h
theorem aF {next:St→Prop} {Q:Exit→St→Prop} (h:Q .ret s):iA next Q .ret s:=h
theorem aY {next:St→Prop} {Q:Exit→St→Prop} {id:Nat} (h:Q (.exit id) s):iA next Q (.exit id) s:=h
theorem a_ {Q:Exit→St→Prop} {id:Nat} (h:Q .normal s):nF id Q .normal s:=h
theorem aW {Q:Exit→St→Prop} {id:Nat} (h:Q .ret s):nF id Q .ret s:=h
theorem bQ {Q:Exit→St→Prop} {id:Nat} (h:Q .normal s):nF id Q (.exit id) s:=by simp only [nF,if_true];exact h
theorem Ol {Q:Exit→St→Prop} {id pZ:Nat} (ep:Nat.beq pZ id=false) (h:Q (.exit pZ) s):nF id Q (.exit pZ) s:=by
 have:pZ≠id:=by intro e;subst e;simp at ep
 simp only [nF,this,if_false];exact h
theorem od {F:St→Prop} (h:F s):oc F .normal s:=h
theorem a8 {F:St→Prop} (h:F s):oc F .ret s:=h
theorem bd {o:Oper} {j d:Nat} {want b:Bool} (apM:o.guard=some (j,want)) (_hj:(ops[j]?).bind (·.dst)=some d) (_hb:s.get d=.sc (.bool b)) (h1:b=true→Go P ops draw Q (o::l) s acc) (h2:b=false→Go P ops draw Q (o::l) s acc):Go P ops draw Q (o::l) s acc:=by
 cases b
 ·exact h2 rfl
 ·exact h1 rfl
end
end Go.Ab
namespace Go.Ab
open Go.RowKit
variable{lim:Nat}
section
variable{P:Program} {tt:TT}
def sg (t:List (Nat×AV)):List Nat→Option (List (Nat×AV))
 |[]=>some []
 |k::l=>match lk k t with
  |none=>none
  |some v=>match force v with
   |none=>none
   |some u=>match sg t l with
    |none=>none
    |some r=>some ((k,u)::r)
def si (m:Mem):List Nat→Option Mem
 |[]=>some []
 |b::l=>match lk b m with
  |some (some k)=>match si m l with
   |none=>none
   |some r=>some ((b,some k)::r)
  |_=>none
mutual
def sj (ρ:cC):AV→Bool
 |.ref b _ _=>match lk b ρ with
  |some (some b')=>Nat.beq b' b
  |_=>false
 |.arr b _ _=>match lk b ρ with
  |some (some b')=>Nat.beq b' b
  |_=>false
 |.iQ b _ _=>match lk b ρ with
  |some (some b')=>Nat.beq b' b
  |_=>false
 |.agg cs=>tK ρ cs
 |.bR cs=>tK ρ cs
 |.cE _ a b=>tK ρ a&&tK ρ b
 |_=>true
def tK (ρ:cC):List AV→Bool
 |[]=>true
 |c::cs=>sj ρ c&&tK ρ cs
end
theorem Fz {ρ:cC} {b:Nat} (h:(match lk b ρ with|some (some b')=>Nat.beq b' b|_=>false)=true):lk b ρ=some (some b):=by
 cases hq:lk b ρ with
 |none=>simp [hq] at h
 |some o=>
  cases o with
  |none=>simp [hq] at h
  |some b'=>
   simp only [hq] at h;have:=Nat.eq_of_beq_eq_true h;subst this;rfl
mutual
theorem ag {m:Mem} {ρ:cC}:∀(a:AV),sj ρ a=true→bE m ρ a a
 |.bot,_=>by simp [bE]
 |.sc v,_=>by
  simp only [bE];unfold tz;split
  ·simp_all
  ·simp_all
  ·rfl
 |.bF,_=>by simp [bE]
 |.agg cs,h=>by simp only [bE];exact yu cs (by simpa [sj] using h)
 |.bR cs,h=>by simp only [bE];exact yu cs (by simpa [sj] using h)
 |.sl xs,_=>by simp [bE]
 |.vp cs,_=>by simp [bE]
 |.ref b _ _,h=>by simp only [bE];exact⟨Fz (by simpa only [sj] using h),trivial,trivial⟩
 |.arr b _ _,h=>by simp only [bE];exact⟨Fz (by simpa only [sj] using h),trivial,trivial⟩
 |.cE _ a b,h=>by
  simp only [sj,Bool.and_eq_true] at h;simp only [bE];exact⟨trivial,yu a h.1,yu b h.2⟩
 |.iQ b _ _,h=>by simp only [bE];exact⟨Fz (by simpa only [sj] using h),trivial,trivial⟩
 |.jd _,_=>by simp [bE]
theorem yu {m:Mem} {ρ:cC}:∀(l:List AV),tK ρ l=true→gb m ρ l l
 |[],_=>by simp [gb]
 |a::l,h=>by
  simp only [tK,Bool.and_eq_true] at h;simp only [gb];exact⟨ag a h.1,yu l h.2⟩
end
theorem Om:∀(l:List AV),vx l l
 |[]=>trivial
 |_::l=>⟨rfl,Om l⟩
def yv (ρ:cC):List (Nat×AV)→Bool
 |[]=>true
 |(_,v)::l=>sj ρ v&&yv ρ l
def yw (ρ:cC):Mem→Bool
 |[]=>true
 |(b,some k)::l=>(match lk b ρ with|some (some b')=>Nat.beq b' b|_=>false)&&tK ρ k.xs&&yw ρ l
 |(_,none)::_=>false
theorem vH {ρ:cC} {n:Nat} {t:List (Nat×AV)} {m:Mem}:∀{K:List Nat} {kt:List (Nat×AV)},sg t K=some kt→yv ρ kt=true→pj ρ ⟨n,t,m⟩ kt
 |[],kt,h,_=>by simp [sg] at h;subst h;trivial
 |k::l,kt,h,hi=>by
  simp only [sg] at h;cases h1:lk k t with
  |none=>simp [h1] at h
  |some v=>
   cases h2:force v with
   |none=>simp [h1,h2] at h
   |some u=>
    cases h3:sg t l with
    |none=>simp [h1,h2,h3] at h
    |some r=>
     simp [h1,h2,h3] at h;subst h;simp only [yv,Bool.and_eq_true] at hi;have:=force_eq h2;subst this;refine⟨?_,vH h3 hi.2⟩;have hg:St.get ⟨n,t,m⟩ k=v:=by simp [St.get,h1]
     rw [hg];exact ag v hi.1
theorem vI {ρ:cC} {m:Mem}:∀{K:List Nat} {km:Mem},si m K=some km→yw ρ km=true→et ρ m km
 |[],km,h,_=>by simp [si] at h;subst h;trivial
 |b::l,km,h,hi=>by
  simp only [si] at h;cases h1:lk b m with
  |none=>simp [h1] at h
  |some ok=>
   cases ok with
   |none=>simp [h1] at h
   |some k=>
    cases h3:si m l with
    |none=>simp [h1,h3] at h
    |some r=>
     simp [h1,h3] at h;subst h;simp only [yw,Bool.and_eq_true] at hi;refine⟨?_,vI h3 hi.2⟩;rw [Fz hi.1.1];exact⟨k,h1,rfl,rfl,.inr ⟨yu _ hi.1.2,Om _⟩⟩
theorem BB {ρ:cC} {s:St}:∀{a b:List (Nat×AV)},pj ρ s a→pj ρ s b→pj ρ s (a++b)
 |[],_,_,h=>h
 |(_,_)::_,_,h,h'=>⟨h.1,BB h.2 h'⟩
theorem BC {ρ:cC} {m:Mem}:∀{a b:Mem},et ρ m a→et ρ m b→et ρ m (a++b)
 |[],_,_,h=>h
 |(_,none)::_,_,h,_=>by simp [et] at h
 |(_,some _)::_,_,h,h'=>⟨h.1,BC h.2 h'⟩
structure Fits (K KB:List Nat) (kt:List (Nat×AV)) (km:Mem) (ρ:cC) (s:St) (mt:List (Nat×AV)) (mm:Mem):Prop where
 k:sg s.t K=some kt
 kb:si s.m KB=some km
 FA:pn ρ (mm++km)=true
 FB:yv ρ kt=true
 FC:yw ρ km=true
 t:pj ρ s mt
 m:et ρ s.m mm
theorem aap {X:Type} {body:Code} {Q:Exit→St→Prop} {n:Nat} {t:List (Nat×AV)} {m:Mem} (K KB:List Nat) (mt:X→List (Nat×AV)) (mm:X→Mem) (μ:X→Nat) (x0:X) (sa:cC) {kt:List (Nat×AV)} {km:Mem}
  (h0:Fits K KB kt km sa ⟨n,t,m⟩ (mt x0) (mm x0))
  (step:∀x,dO P lim body (iA (fun s'=>s'.n=n∧∃x' ρ,Fits K KB kt km ρ s' (mt x') (mm x')∧μ x'<μ x) Q) ⟨n,mt x++kt,mm x++km⟩):dO P lim (.loop body) Q ⟨n,t,m⟩:=by
 refine ZQ (fun x=>⟨n,mt x++kt,mm x++km⟩) μ x0 ⟨sa,rfl,h0.FA,BB h0.t (vH h0.k h0.FB),BC h0.m (vI h0.kb h0.FC)⟩ (fun x=>?_);intro c eu a w hs;refine wp_mono (step x c eu a w hs) ?_;rintro e a' w' ⟨s',cu,hq⟩;refine⟨s',cu,?_⟩;cases e with
 |normal=>
  obtain⟨hn,x',ρ,hf,bB⟩:=hq;obtain⟨n',t',m'⟩:=s';exact⟨x',ρ,⟨hn,hf.FA,BB hf.t (vH hf.k hf.FB),BC hf.m (vI hf.kb hf.FC)⟩,bB⟩
 |_=>exact hq
variable{ops:Array Oper} {draw:Bool} {Q:St→Prop} {acc:List (Option dN)} {l:List Oper}
theorem aaq {o:Oper} {n ty el:Nat} {t t':List (Nat×AV)} {m:Mem} {x y:Operand} {D E:ae} {k:IntKind} {i:Int} {xs:List AV} {ev:AV} (ht:ff P tt) (kE:0≤i) (he:xs[i.toNat]?=some ev) (hg:dV ops ⟨n,t,m⟩ o=some true) (ho:o.op=.indexAddr ty x y) (hD:lk ty tt=some D) (hk:D.k=.slice el) (hE:lk el tt=some E)
  (hx:(⟨n,t,m⟩:St).ev x=.sl xs) (hy:(⟨n,t,m⟩:St).ev y=.sc (.int k i)) (hl:Nat.beq ev.cells.length E.size=true) (hp:fB n t o.dst (.vp ev.cells)=some t') (h:Go P ops draw Q l ⟨n,t',m⟩ (some ⟨.vp ev.cells,[],[],[]⟩::acc)):Go P ops draw Q (o::l) ⟨n,t,m⟩ acc:=
 eL hg (Nt ho (ht _ _ hD) hk (ht _ _ hE) hx hy kE he hl) rfl hp rfl h
def oa (tt:TT) (s:St):List ResultVar→Option (List AV)
 |[]=>some []
 |.tmp t::l=>match force (s.get t) with
  |none=>none
  |some v=>match oa tt s l with
   |none=>none
   |some r=>some (v::r)
 |.cell a t::l=>match s.get a with
  |.ref b i off=>match lk b s.m with
   |some (some k)=>match lk t tt with
    |none=>none
    |some D=>match nH k.xs i with
     |none=>none
     |some e=>match rd D e.cells off with
      |none=>none
      |some v=>match oa tt s l with
       |none=>none
       |some r=>some (v::r)
   |_=>none
  |_=>none
theorem FD (ht:ff P tt) {s:St}:∀{rs:List ResultVar} {vs:List AV},oa tt s rs=some vs→p6 P s rs vs
 |[],vs,h=>by simp [oa] at h;subst h;trivial
 |.tmp t::l,vs,h=>by
  simp only [oa] at h;cases h1:force (s.get t) with
  |none=>simp [h1] at h
  |some v=>
   cases h2:oa tt s l with
   |none=>simp [h1,h2] at h
   |some r=>
    simp [h1,h2] at h;subst h;exact⟨force_eq h1,FD ht h2⟩
 |.cell a t::l,vs,h=>by
  simp only [oa] at h;cases h1:s.get a with
  |ref b i off=>
   simp only [h1] at h;cases h2:lk b s.m with
   |none=>simp [h2] at h
   |some ok=>
    cases ok with
    |none=>simp [h2] at h
    |some k=>
     simp only [h2] at h;cases h3:lk t tt with
     |none=>simp [h3] at h
     |some D=>
      simp only [h3] at h;cases h4:nH k.xs i with
      |none=>simp [h4] at h
      |some e=>
       simp only [h4] at h;cases h5:rd D e.cells off with
       |none=>simp [h5] at h
       |some v=>
        simp only [h5] at h;cases h6:oa tt s l with
        |none=>simp [h6] at h
        |some r=>
         simp [h6] at h;subst h;exact⟨⟨D,b,i,off,k,e,ht _ _ h3,h1,h2,yq _ _ _ h4,h5⟩,FD ht h6⟩
  |_=>simp [h1] at h
def rV:List AV→Option AV
 |[]=>some (.bR [])
 |[v]=>some v
 |v::u::l=>some (.bR (v::u::l))
theorem On {vs:List AV} {v:AV} (h:rV vs=some v):vA vs=v:=by
 match vs,h with
 |[],h=>simpa [rV,vA] using h
 |[x],h=>simpa [rV,vA] using h
 |x::y::l,h=>simpa [rV,vA] using h
theorem bp {fn:Func} {s:St} {vs:List AV} {v r:AV} (ht:ff P tt) (hr:oa tt s fn.results.toList=some vs) (hv:rV vs=some v) (h:bE [] [] v r):mz P fn [] r [] s:=
 ⟨vs,[],FD ht hr,rfl,rfl,by rw [On hv];exact h,trivial⟩
theorem gu {fn:Func} {s:St} {vs:List AV} {v r:AV} {M M':Mem} (ρ:cC) (ht:ff P tt) (hr:oa tt s fn.results.toList=some vs) (hv:rV vs=some v) (h1:pn ρ M'=true) (h2:IX ρ M M'=true) (h:bE [] ρ v r) (hm:et ρ s.m M'):mz P fn M r M' s:=
 ⟨vs,ρ,FD ht hr,h1,h2,by rw [On hv];exact h,hm⟩
end
end Go.Ab
namespace Go.Ab
open Go.RowKit Go.WideShapes Go.ChangeShapes
inductive Sh where
 |int (k:IntKind)
 |bool
 |str
 |slice (e:Sh)
 |struct (fs:List Sh)
mutual
def Sh.size:Sh→Nat
 |.int _=>1
 |.bool=>1
 |.str=>1
 |.slice _=>1
 |.struct fs=>Sh.mK fs
def Sh.mK:List Sh→Nat
 |[]=>0
 |f::fs=>Sh.size f+Sh.mK fs
end
def Sh.pack:Sh→List AV→AV
 |.struct _,cs=>.agg cs
 |_,[c]=>c
 |_,cs=>.agg cs
mutual
def c_:Sh→List AV→Prop
 |.int k,cs=>∃n,cs=[.sc (.int k n)]∧k.min≤n∧n≤k.max
 |.bool,cs=>∃b,cs=[.sc (.bool b)]
 |.str,cs=>∃s:ByteArray,cs=[.sc (.string s)]∧s.size≤maxLen
 |.slice e,cs=>∃xs:List AV,cs=[.sl xs]∧xs.length≤maxLen∧∀x,x∈xs→∃fg,x=e.pack fg∧c_ e fg
 |.struct fs,cs=>dy fs cs
def dy:List Sh→List AV→Prop
 |[],cs=>cs=[]
 |f::fs,cs=>∃a b,cs=a++b∧c_ f a∧dy fs b
end
def Of (s:Sh) (a:AV):Prop:=∃cs,a=s.pack cs∧c_ s cs
def FE (n:Nat) (e:TypeId) (z:Nat):List Field:=(List.range n).map fun i=>{name:= "",type:=e,offset:=i*z,embedded:=false,tag:= "",pkgPath:= "",byteOffset:=0}
mutual
def mL (P:Program):Sh→TypeId→Bool
 |.int k,t=>match P.underlying t with
  |some (.int k')=>decide (k'=k)
  |_=>false
 |.bool,t=>match P.underlying t with
  |some .bool=>true
  |_=>false
 |.str,t=>match P.underlying t with
  |some .string=>true
  |_=>false
 |.slice e,t=>match P.underlying t with
  |some (.slice u)=>mL P e u&&(decide (P.cellsOf u=e.size)&&decide (0<e.size))
  |_=>false
 |.struct fs,t=>match P.underlying t with
  |some (.struct gs)=>vJ P fs gs.toList 0&&decide (P.cellsOf t=Sh.mK fs)
  |some (.array n e)=>vJ P fs (FE n e (P.cellsOf e)) 0&&decide (P.cellsOf t=Sh.mK fs)
  |_=>false
def vJ (P:Program):List Sh→List Field→Nat→Bool
 |[],[],_=>true
 |f::fs,g::gs,o=>decide (g.offset=o)&&(mL P f g.type&&(decide (P.cellsOf g.type=f.size)&&vJ P fs gs (o+f.size)))
 |_,_,_=>false
end
def p9 (ps:List MemPlace) (n:Nat):Prop:=∃p,p∈ps∧p.block=n
theorem Rel.more {w:World} {R R':Nat→Prop} {φ:Ph} {a:AV} {v:Value} (h:Rel w R φ a v) (hR:∀n,R n→R' n):Rel w R' φ a v:=
 h.mono (fun _ _=>rfl) hR (fun _ _ h=>h)
mutual
theorem c_.length:∀(s:Sh) (cs:List AV),c_ s cs→cs.length=s.size
 |.int _,_,h=>by obtain⟨n,rfl,_⟩:=h;rfl
 |.bool,_,h=>by obtain⟨b,rfl⟩:=h;rfl
 |.str,_,h=>by obtain⟨b,rfl,_⟩:=h;rfl
 |.slice _,_,h=>by obtain⟨b,rfl,_⟩:=h;rfl
 |.struct fs,cs,h=>by rw [c_] at h;rw [Sh.size];exact dy.length fs cs h
theorem dy.length:∀(fs:List Sh) (cs:List AV),dy fs cs→cs.length=Sh.mK fs
 |[],cs,h=>by rw [dy] at h;subst h;rfl
 |f::fs,cs,h=>by
  rw [dy] at h;obtain⟨a,b,rfl,h1,h2⟩:=h;rw [List.length_append,c_.length f a h1,dy.length fs b h2,Sh.mK]
end
theorem pack_cells {s:Sh} {cs:List AV} (h:c_ s cs):(s.pack cs).cells=cs:=by
 cases s with
 |int k=>obtain⟨n,rfl,_⟩:=h;rfl
 |bool=>obtain⟨b,rfl⟩:=h;rfl
 |str=>obtain⟨b,rfl,_⟩:=h;rfl
 |slice e=>rw [c_] at h;obtain⟨b,rfl,_⟩:=h;rfl
 |struct fs=>rfl
section
variable{H:Type} {enc:TypeId×Value→H} {P:Program} {w:World} {held:Bool}
theorem aar {base:Nat} {a:Addr} {n:Nat} {l:List Value} (h:w.cells? base a n=some l):l.length=n∧∀i v,l[i]?=some v→w.cell? (a.add i)=some v:=by
 unfold World.cells? at h;split at h
 ·have hlen:l.length=n:=by simpa using mapM_some_length h
  refine⟨hlen,fun i v hv=>?_⟩
  have hi:i<n:=by
   have:=(List.getElem?_eq_some_iff.1 hv).1;omega
  have:=mapM_some_get h i i (by simp [hi]);rw [hv] at this;exact this
 ·cases h
mutual
theorem Jk:∀(s:Sh) (t fuel:Nat) (cs:List Value) (x:DataW H×List MemPlace),mL P s t=true→DataW.trod enc P w 0 (fun _=>true) held fuel t cs=some x→
  ∃kH,c_ s kH∧kH.length=cs.length∧∀(i:Nat) (a:AV) (v:Value),kH[i]?=some a→cs[i]?=some v→Rel w (p9 x.2) Ph.no a v
 |.int k,t,fuel,cs,x,hf,h=>by
  rw [mL] at hf;split at hf
  ·rename_i k' ht;obtain rfl:=of_decide_eq_true hf;obtain⟨n,rfl,rfl,hw⟩:=DataW.trod_int ht h;simp only [Lit.wf,Bool.and_eq_true,decide_eq_true_eq] at hw;refine⟨[.sc (.int k' n)],by rw [c_];exact⟨n,rfl,hw⟩,rfl,?_⟩;intro i a v h1 h2;cases i with
   |zero=>simp at h1 h2;subst h1;subst h2;exact .sc rfl
   |succ i=>simp at h1
  ·cases hf
 |.bool,t,fuel,cs,x,hf,h=>by
  rw [mL] at hf;split at hf
  ·rename_i ht;obtain⟨n,rfl,rfl⟩:=DataW.trod_bool ht h;refine⟨[.sc (.bool n)],by rw [c_];exact⟨n,rfl⟩,rfl,?_⟩;intro i a v h1 h2;cases i with
   |zero=>simp at h1 h2;subst h1;subst h2;exact .sc rfl
   |succ i=>simp at h1
  ·cases hf
 |.str,t,fuel,cs,x,hf,h=>by
  rw [mL] at hf;split at hf
  ·rename_i ht;obtain⟨n,rfl,rfl,hw⟩:=DataW.trod_string ht h;refine⟨[.sc (.string n)],by rw [c_];exact⟨n,rfl,hw⟩,rfl,?_⟩;intro i a v h1 h2;cases i with
   |zero=>simp at h1 h2;subst h1;subst h2;exact .sc rfl
   |succ i=>simp at h1
  ·cases hf
 |.slice e,t,fuel,cs,x,hf,h=>by
  rw [mL] at hf;split at hf
  ·rename_i u ht;simp only [Bool.and_eq_true,decide_eq_true_eq] at hf;obtain⟨hf,dj,nE⟩:=hf;rcases DataW.trod_slice ht h with⟨rfl,rfl⟩|⟨a,len,cap,elems,rest,n,rfl,rfl,rfl,_,lE,hcm,iS,hg,_,_⟩
   ·refine⟨[.sl []],by rw [c_];exact⟨[],rfl,by simp,by simp⟩,rfl,?_⟩;intro i a v h1 h2;cases i with
    |zero=>simp at h1 h2;subst h1;subst h2;exact .jG
    |succ i=>simp at h1
   ·have each:∀i,i<len→∃(fg:List AV) (l:List Value) (z:DataW H×List MemPlace),c_ e fg∧fg.length=l.length∧l.length=e.size∧elems[i]?=some z∧
      (∀j v,l[j]?=some v→w.cell? ((a.add (i*e.size)).add j)=some v)∧∀(j:Nat) (c:AV) (v:Value),fg[j]?=some c→l[j]?=some v→Rel w (p9 z.2) Ph.no c v:=by
     intro i hi;have h1:=hg i hi;have bB:i<elems.length:=by omega
     rw [List.getElem?_eq_getElem bB,dj] at h1;rw [Option.bind_eq_some_iff] at h1;obtain⟨l,hl,hz⟩:=h1;obtain⟨Oo,lE⟩:=aar hl;obtain⟨fg,h2,h3,h4⟩:=Jk e u n l _ hf hz;exact⟨fg,l,_,h2,h3,Oo,List.getElem?_eq_getElem bB,lE,h4⟩
    by_cases hz:len=0
    ·subst hz;refine⟨[.sl []],by rw [c_];exact⟨[],rfl,by simp,by simp⟩,rfl,?_⟩;intro i a' v h1 h2;cases i with
     |zero=>simp at h1 h2;subst h1;subst h2;exact .jG
     |succ i=>simp at h1
    ·have Oq:a.spot=none:=by
      obtain⟨fg,l,z,_,_,h3,_,h5,_⟩:=each 0 (by omega);have tq:0<l.length:=by omega
      have:=World.cell?_spot (h5 0 l[0] (List.getElem?_eq_getElem tq));simpa [Addr.add] using this
     obtain⟨b,o,spot⟩:=a;simp only at Oq;subst Oq
     have Ot:∀i:Fin len,∃q:List AV×List Value×(DataW H×List MemPlace),c_ e q.1∧q.1.length=q.2.1.length∧q.2.1.length=e.size∧elems[i.1]?=some q.2.2∧
       (∀j v,q.2.1[j]?=some v→w.cell? ⟨b,o+(i.1*e.size+j),none⟩=some v)∧∀(j:Nat) (c:AV) (v:Value),q.1[j]?=some c→q.2.1[j]?=some v→Rel w (p9 q.2.2.2) Ph.no c v:=by
      intro i;obtain⟨fg,l,z,h1,h2,h3,h4,h5,h6⟩:=each i.1 i.2;refine⟨(fg,l,z),h1,h2,h3,h4,fun j v hj=>?_,h6⟩;have:=h5 j v hj;rw [add_plain,add_plain,Nat.add_assoc] at this;exact this
     have pick:=fun i=>Classical.choose_spec (Ot i)
     let q:=fun i=>Classical.choose (Ot i)
     have hq:∀i,c_ e (q i).1∧(q i).1.length=(q i).2.1.length∧(q i).2.1.length=e.size∧elems[i.1]?=some (q i).2.2∧
       (∀j v,(q i).2.1[j]?=some v→w.cell? ⟨b,o+(i.1*e.size+j),none⟩=some v)∧∀(j:Nat) (c:AV) (v:Value),(q i).1[j]?=some c→(q i).2.1[j]?=some v→Rel w (p9 (q i).2.2.2) Ph.no c v:=pick
     clear pick;generalize q=q at hq;have kh:(List.ofFn fun i=>e.pack (q i).1).length=len:=by simp
     refine⟨[.sl (List.ofFn fun i=>e.pack (q i).1)],?_,rfl,?_⟩
     ·rw [c_];refine⟨_,rfl,by rw [kh];omega,fun x hx=>?_⟩;rw [List.mem_ofFn] at hx;obtain⟨i,rfl⟩:=hx;exact⟨_,rfl,(hq i).1⟩
     ·intro i a' v h1 h2;cases i with
      |succ i=>simp at h1
      |zero=>
       simp at h1 h2;subst h1;subst h2
       have mD:∀(i:Nat) (x:AV),(List.ofFn fun i=>e.pack (q i).1)[i]?=some x→∃hi:i<len,x=e.pack (q ⟨i,hi⟩).1:=by
        intro i x hx;rw [List.getElem?_ofFn] at hx;split at hx
        ·rename_i hi;simp at hx;exact⟨hi,hx.symm⟩
        ·cases hx
       have oi:∀k,k<len*e.size→∃hi:k/e.size<len,w.cell? ⟨b,o+k,none⟩=some ((q ⟨k/e.size,hi⟩).2.1.getD (k%e.size) undef):=by
        intro k hk;have hi:k/e.size<len:=by rw [Nat.div_lt_iff_lt_mul nE];exact hk
        refine⟨hi,?_⟩;obtain⟨_,_,h3,_,h5,_⟩:=hq ⟨k/e.size,hi⟩;have hm:k%e.size<(q ⟨k/e.size,hi⟩).2.1.length:=by rw [h3];exact Nat.mod_lt _ nE
        have:=h5 (k%e.size) _ (List.getElem?_eq_getElem hm);have hdm:k/e.size*e.size+k%e.size=k:=Nat.div_add_mod' k e.size;simp only [hdm] at this;rw [this];simp [List.getD,List.getElem?_eq_getElem hm]
       have x_:p9 (MemPlace.row ⟨b,o,none⟩ ((elems.length+rest.length)*P.cellsOf u)++(elems++rest).flatMap (·.2)) b:=by
        refine⟨.cell b o,List.mem_append_left _ ?_,rfl⟩;unfold MemPlace.row;refine List.mem_map.2 ⟨0,?_,by simp⟩;rw [List.mem_range,dj];exact Nat.mul_pos (by omega) nE
       have key:Rel w (p9 (MemPlace.row ⟨b,o,none⟩ ((elems.length+rest.length)*P.cellsOf u)++(elems++rest).flatMap (·.2))) Ph.no (.sl (List.ofFn fun i=>e.pack (q i).1))
         (.slice (some ⟨b,o,none⟩) (List.ofFn fun i=>e.pack (q i).1).length cap):=by
        refine .sl (fun k=>if hi:k/e.size<len then(q ⟨k/e.size,hi⟩).2.1.getD (k%e.size) undef else undef) nE x_ (by rw [kh];exact lE) ?_ ?_ ?_
        ·intro i x hx;obtain⟨hi,rfl⟩:=mD i x hx;rw [pack_cells (hq _).1,(hq _).2.1,(hq _).2.2.1]
        ·intro k hk;rw [kh] at hk;obtain⟨hi,hc⟩:=oi k hk;simp only [hi,dite_true];exact hc
        ·intro i x j c hx hc;obtain⟨hi,rfl⟩:=mD i x hx;obtain⟨g1,g2,g3,g4,g5,g6⟩:=hq ⟨i,hi⟩;rw [pack_cells g1] at hc
         have hj:j<e.size:=by
          have:=(List.getElem?_eq_some_iff.1 hc).1;omega
         have e1:(i*e.size+j)/e.size=i:=by
          rw [Nat.add_comm,Nat.add_mul_div_right _ _ nE,Nat.div_eq_of_lt hj,Nat.zero_add]
         have e2:(i*e.size+j)%e.size=j:=by
          rw [Nat.add_comm,Nat.add_mul_mod_self_right,Nat.mod_eq_of_lt hj]
         have eR:j<(q ⟨i,hi⟩).2.1.length:=by omega
         have ox:=g6 j c _ hc (List.getElem?_eq_getElem eR)
         have BD:(if hi:(i*e.size+j)/e.size<len then(q ⟨(i*e.size+j)/e.size,hi⟩).2.1.getD ((i*e.size+j)%e.size) undef else undef)=(q ⟨i,hi⟩).2.1[j]:=by
          have:∀i',i'=i→(if nD:i'<len then(q ⟨i',nD⟩).2.1.getD ((i*e.size+j)%e.size) undef else undef)=(q ⟨i,hi⟩).2.1[j]:=by
           intro i' he;subst he;rw [dif_pos hi,e2];simp [List.getD,List.getElem?_eq_getElem eR]
          exact this _ e1
         rw [BD];refine ox.more ?_;rintro n ⟨p,hp,yx⟩;refine⟨p,List.mem_append_right _ (List.mem_flatMap.2 ⟨_,List.mem_append_left _ (List.mem_of_getElem? g4),hp⟩),yx⟩
       rw [kh] at key;exact key
  ·cases hf
 |.struct fs,t,fuel,cs,x,hf,h=>by
  rw [mL] at hf;split at hf
  ·rename_i gs ht;simp only [Bool.and_eq_true,decide_eq_true_eq] at hf;obtain⟨hf,dj⟩:=hf;obtain⟨xs,n,rfl,rfl,jS,kh,hg⟩:=DataW.trod_struct ht h;rw [dj] at jS;have:=Jl fs gs.toList n 0 cs xs hf (by rw [jS];omega) (by simp [kh]) (fun i f hf=>hg i f (by simpa using hf));obtain⟨kH,h1,h2,h3⟩:=this;exact⟨kH,by rw [c_];exact h1,by simpa using h2,by simpa using h3⟩
  ·rename_i m e ht;simp only [Bool.and_eq_true,decide_eq_true_eq] at hf;obtain⟨hf,dj⟩:=hf;obtain⟨xs,n,rfl,rfl,jS,kh,hg⟩:=DataW.trod_array ht h;rw [dj] at jS
   have:=Jl fs (FE m e (P.cellsOf e)) n 0 cs xs hf (by rw [jS];omega) (by simp [kh,FE]) (fun i f hf=>by
    unfold FE at hf;rw [List.getElem?_map] at hf;by_cases hi:i<m
    ·rw [List.getElem?_range hi] at hf;simp at hf;subst hf;exact hg i hi
    ·rw [List.getElem?_eq_none (by simp;omega)] at hf;cases hf)
   obtain⟨kH,h1,h2,h3⟩:=this;exact⟨kH,by rw [c_];exact h1,by simpa using h2,by simpa using h3⟩
  ·cases hf
theorem Jl:∀(fs:List Sh) (gs:List Field) (n o:Nat) (cs:List Value) (xs:List (DataW H×List MemPlace)),vJ P fs gs o=true→cs.length=o+Sh.mK fs→xs.length=gs.length→
  (∀(i:Nat) (f:Field),gs[i]?=some f→DataW.trod enc P w 0 (fun _=>true) held n f.type ((cs.drop f.offset).take (P.cellsOf f.type))=xs[i]?)→
  ∃kH,dy fs kH∧kH.length=(cs.drop o).length∧∀(i:Nat) (a:AV) (v:Value),kH[i]?=some a→(cs.drop o)[i]?=some v→Rel w (p9 (xs.flatMap (·.2))) Ph.no a v
 |[],[],n,o,cs,xs,hf,hl,kh,hg=>by
  refine⟨[],by rw [dy],by simp [hl,Sh.mK],by intro i a v h;simp at h⟩
 |f::fs,g::gs,n,o,cs,xs,hf,hl,kh,hg=>by
  rw [vJ] at hf;simp only [Bool.and_eq_true,decide_eq_true_eq] at hf;obtain⟨ho,Bw,dj,hf2⟩:=hf;rw [Sh.mK] at hl
  match xs,kh with
  |x0::xs,kh=>
   have h0:=hg 0 g rfl;rw [ho,dj] at h0;obtain⟨a0,c1,c2,c3⟩:=Jk f g.type n _ x0 Bw (by simpa using h0);obtain⟨a1,d1,d2,d3⟩:=Jl fs gs n (o+f.size) cs xs hf2 (by omega) (by simpa using kh) (fun i f' hf'=>by simpa using hg (i+1) f' (by simpa using hf'));have tq:a0.length=f.size:=c_.length f a0 c1;refine⟨a0++a1,by rw [dy];exact⟨a0,a1,rfl,c1,d1⟩,?_,?_⟩
   ·rw [List.length_append,d2,tq];simp only [List.length_drop];omega
   ·intro i a v h1 h2;by_cases hi:i<a0.length
    ·rw [List.getElem?_append_left hi] at h1;have vK:((cs.drop o).take f.size)[i]?=some v:=by rw [List.getElem?_take,if_pos (by omega)];exact h2
     refine(c3 i a v h1 vK).more ?_;rintro m ⟨p,hp,hm⟩;exact⟨p,by simp [hp],hm⟩
    ·rw [List.getElem?_append_right (by omega)] at h1
     have vK:(cs.drop (o+f.size))[i -a0.length]?=some v:=by
      rw [List.getElem?_drop] at h2⊢;rw [←h2];congr 1;omega
     refine(d3 _ a v h1 vK).more ?_;rintro m ⟨p,hp,hm⟩;refine⟨p,?_,hm⟩;rw [List.flatMap_cons,List.mem_append];exact Or.inr hp
 |[],_::_,_,_,_,_,hf,_,_,_=>by simp [vJ] at hf
 |_::_,[],_,_,_,_,hf,_,_,_=>by simp [vJ] at hf
end
end
section
variable{H:Type} {enc:TypeId×Value→H} {P:Program} {w:World}
theorem aav {s:Sh} {t:TypeId} {v:Value} {d:DataW H} {ps:List MemPlace} {base:Nat} (hf:mL P s t=true) (ec:Value.okWide P w .any base t v)
  (h:DataW.Trod enc P w 0 (fun _=>true) true t v d ps):∃a,Of s a∧Rel w (p9 ps) Ph.no a v:=by
 obtain⟨n,hn⟩:=h;obtain⟨kH,h1,h2,h3⟩:=Jk s t n _ _ hf hn
 have one:v.cells=#[v]→kH.length=1→∃a,kH=[a]∧Rel w (p9 ps) Ph.no a v:=by
  intro hc hl
  match kH,hl with
  |[a],_=>exact⟨a,rfl,h3 0 a v rfl (by simp [hc])⟩
 cases s with
 |struct fs=>
  rw [mL] at hf;split at hf
  ·rename_i gs ht;simp only [Value.okWide,ht] at ec;obtain⟨cs,rfl,_⟩:=ec;refine⟨.agg kH,⟨kH,rfl,h1⟩,.agg (by simpa [Value.cells] using h2) (fun i c v hc hv=>h3 i c v hc (by simpa [Value.cells] using hv))⟩
  ·rename_i m e ht;simp only [Value.okWide,ht] at ec;obtain⟨cs,rfl,_⟩:=ec;refine⟨.agg kH,⟨kH,rfl,h1⟩,.agg (by simpa [Value.cells] using h2) (fun i c v hc hv=>h3 i c v hc (by simpa [Value.cells] using hv))⟩
  ·cases hf
 |int k=>
  rw [mL] at hf;split at hf
  ·rename_i k' ht;have hc:v.cells=#[v]:=by cases v<;>simp_all [Value.okWide,Cell.okWide,Cell.ok,Value.cells]
   obtain⟨a,rfl,hr⟩:=one hc (by simpa [Sh.size] using c_.length _ _ h1);exact⟨a,⟨[a],rfl,h1⟩,hr⟩
  ·cases hf
 |bool=>
  rw [mL] at hf;split at hf
  ·rename_i ht;have hc:v.cells=#[v]:=by cases v<;>simp_all [Value.okWide,Cell.okWide,Cell.ok,Value.cells]
   obtain⟨a,rfl,hr⟩:=one hc (by simpa [Sh.size] using c_.length _ _ h1);exact⟨a,⟨[a],rfl,h1⟩,hr⟩
  ·cases hf
 |str=>
  rw [mL] at hf;split at hf
  ·rename_i ht;have hc:v.cells=#[v]:=by cases v<;>simp_all [Value.okWide,Cell.okWide,Cell.ok,Value.cells]
   obtain⟨a,rfl,hr⟩:=one hc (by simpa [Sh.size] using c_.length _ _ h1);exact⟨a,⟨[a],rfl,h1⟩,hr⟩
  ·cases hf
 |slice e=>
  rw [mL] at hf;split at hf
  ·rename_i u ht;have hc:v.cells=#[v]:=by cases v<;>simp_all [Value.okWide,Cell.okWide,Cell.ok,Value.cells]
   obtain⟨a,rfl,hr⟩:=one hc (by simpa [Sh.size] using c_.length _ _ h1);exact⟨a,⟨[a],rfl,h1⟩,hr⟩
  ·cases hf
def BE:List Sh→List AV→Prop
 |[],[]=>True
 |s::ss,a::py=>Of s a∧BE ss py
 |_,_=>False
def fitAll (P:Program):List Sh→List TypeId→Bool
 |[],[]=>true
 |s::ss,t::ts=>mL P s t&&fitAll P ss ts
 |_,_=>false
theorem Ou {base:Nat}:∀(ss:List Sh) (ts:List TypeId) (vs:List Value) (ds:List (DataW H)) (ps:List MemPlace),fitAll P ss ts=true→
  (∀(j:Nat) t v,ts[j]?=some t→vs[j]?=some v→Value.okWide P w .any base t v)→DataW.TrodAll enc P w 0 (fun _=>true) true ts vs ds ps→
  ∃py,BE ss py∧py.length=vs.length∧ds.length=ts.length∧∀(i:Nat) (a:AV) (v:Value),py[i]?=some a→vs[i]?=some v→Rel w (p9 ps) Ph.no a v
 |[],[],vs,ds,ps,_,_,h=>by
  obtain⟨rfl,rfl,rfl⟩:=trodAll_nil h;exact⟨[],trivial,rfl,rfl,by intro i a v h;simp at h⟩
 |s::ss,t::ts,vs,ds,ps,hf,ec,h=>by
  obtain⟨v,vs,d,ds,p,q,rfl,rfl,rfl,h0,hr⟩:=trodAll_cons h;rw [fitAll,Bool.and_eq_true] at hf;obtain⟨a,ha,hra⟩:=aav hf.1 (ec 0 t v rfl rfl) h0;obtain⟨py,g1,g2,g3,g4⟩:=Ou ss ts vs ds q hf.2 (fun j t v h1 h2=>ec (j+1) t v (by simpa using h1) (by simpa using h2)) hr;refine⟨a::py,⟨ha,g1⟩,by simp [g2],by simp [g3],?_⟩;intro i c u h1 h2;cases i with
  |zero=>
   simp at h1 h2;subst h1;subst h2;exact hra.more fun n ⟨p',hp,hn⟩=>⟨p',List.mem_append_left _ hp,hn⟩
  |succ i=>
   exact(g4 i c u (by simpa using h1) (by simpa using h2)).more fun n ⟨p',hp,hn⟩=>⟨p',List.mem_append_right _ hp,hn⟩
 |[],_::_,_,_,_,hf,_,_=>by simp [fitAll] at hf
 |_::_,[],_,_,_,hf,_,_=>by simp [fitAll] at hf
theorem Ov (hl:laidOutB P=true) {W W':World} {sp:Nat→Bool}:∀(ts:List TypeId) (vs:List Value) (ds:List (DataW H)) (ps:List MemPlace),ts.all (fun t=>P.readableRec t&&decide (t<P.types.size))=true→
  DataW.TrodAll enc P W 0 (fun _=>true) true ts vs ds ps→(∀p∈ps,W.sameAt W' p)→(∀p∈ps,sp p.block=true)→DataW.TrodAll enc P W' 0 sp true ts vs ds ps
 |[],vs,ds,ps,_,h,_,_=>by
  obtain⟨rfl,rfl,rfl⟩:=trodAll_nil h;exact trodAll_mk0
 |t::ts,vs,ds,ps,hr,h,hs,rY=>by
  obtain⟨v,vs,d,ds,p,q,rfl,rfl,rfl,h0,h1⟩:=trodAll_cons h;rw [List.all_cons,Bool.and_eq_true,Bool.and_eq_true] at hr
  exact trodAll_cons_mk (WideElems.Trod_stays hl hr.1.1 (of_decide_eq_true hr.1.2) h0 (fun p hp=>hs p (List.mem_append_left _ hp)) (fun p hp=>rY p (List.mem_append_left _ hp)))
   (Ov hl ts vs ds q hr.2 h1 (fun p hp=>hs p (List.mem_append_right _ hp)) (fun p hp=>rY p (List.mem_append_right _ hp)))
theorem aax {f:Func} {s:ChangeSpec} {W W':World} {args:Array Value} {v:Value} {ds gs:List (DataW H)} {before pa pv:List MemPlace}
  (hW:DataW.Whole enc P f.params.toList s.vars false W args.toList ds gs before)
  (sk:∀(b:Nat) (sp:Nat→Bool) (hd:Bool),DataW.TrodAll enc P W' b sp hd f.resultTypes.toList (v.resultList f.resultTypes.size) (s.fn H (ds++gs)).results [])
  (fq:∀sp:Nat→Bool,(∀p∈before,sp p.block=true)→DataW.TrodAll enc P W' 0 sp true f.params.toList args.toList (s.fn H (ds++gs)).args pa)
  (FF:∀sp:Nat→Bool,(∀p∈before,sp p.block=true)→DataW.TrodVars enc P W' sp s.vars (s.fn H (ds++gs)).vars pv)
  (BF:before=pa++pv) (hb:Below W.heap.size W W')
  (ec:∀(j:Nat) (t:TypeId) (r:Value),f.resultTypes[j]?=some t→(v.resultList f.resultTypes.size)[j]?=some r→Value.okWide P W' .any 0 t r):
  s.post enc P f false true false false W args v W':=by
 have bB:∀p∈before,p.block<W.heap.size:=fun p hp=>hW.lt p hp
 have hold:∀p∈before,(fun b=>decide (b<W.heap.size)) p.block=true:=fun p hp=>by simpa using bB p hp
 refine⟨ds,gs,before,[],pa,pv,hW,sk _ _ _,fq _ hold,FF _ hold,World.keptBut_mono (fun p hp=>⟨hp,?_⟩) (hb.frame (·∈before)),fun h=>by cases h⟩;rw [BF,List.mem_append] at hp;exact Or.inr hp
end
end Go.Ab
namespace Go.Ab
open Go.RowKit
mutual
def lG:Sh→List Value→Prop
 |.int k,cs=>∃n,cs=[.int k n]
 |.bool,cs=>∃b,cs=[.bool b]
 |.str,cs=>∃s,cs=[.string s]
 |.slice _,_=>False
 |.struct fs,cs=>mM fs cs
def mM:List Sh→List Value→Prop
 |[],cs=>cs=[]
 |f::fs,cs=>∃a b,cs=a++b∧lG f a∧mM fs b
end
def BG:Value→Value→Bool
 |.int _ a,.int _ b=>a==b
 |.bool a,.bool b=>a==b
 |.string a,.string b=>a.toList==b.toList
 |_,_=>false
def lH:List Value→List Value→Bool
 |[],[]=>true
 |a::l,b::m=>BG a b&&lH l m
 |_,_=>false
theorem Ow:∀{a b c d:List Value},a.length=b.length→lH (a++c) (b++d)=(lH a b&&lH c d)
 |[],[],_,_,_=>by simp [lH]
 |x::a,y::b,c,d,h=>by simp [lH,Ow (a:=a) (b:=b) (c:=c) (d:=d) (by simpa using h),Bool.and_assoc]
 |[],_::_,_,_,h=>by simp at h
 |_::_,[],_,_,h=>by simp at h
mutual
def lI (P:Program):Sh→TypeId→Bool
 |.struct fs,t=>match P.underlying t with
  |some (.struct gs)=>!P.stoodInHeld t&&(yy P fs gs.toList 0&&decide (P.cellsOf t=Sh.mK fs))
  |_=>false
 |.slice _,_=>false
 |.int k,t=>match P.underlying t with
  |some (.int k')=>decide (k'=k)
  |_=>false
 |.bool,t=>match P.underlying t with
  |some .bool=>true
  |_=>false
 |.str,t=>match P.underlying t with
  |some .string=>true
  |_=>false
def yy (P:Program):List Sh→List Field→Nat→Bool
 |[],[],_=>true
 |f::fs,g::gs,o=>decide (g.name≠ "_")&&(decide (g.offset=o)&&(lI P f g.type&&(decide (P.cellsOf g.type=f.size)&&yy P fs gs (o+f.size))))
 |_,_,_=>false
end
mutual
def Sh.depth:Sh→Nat
 |.struct fs=>Sh.FG fs+1
 |_=>1
def Sh.FG:List Sh→Nat
 |[]=>0
 |f::fs=>max f.depth (Sh.FG fs)
end
mutual
theorem lG.length:∀(s:Sh) (cs:List Value),lG s cs→cs.length=s.size
 |.int _,_,h=>by obtain⟨n,rfl⟩:=h;rfl
 |.bool,_,h=>by obtain⟨b,rfl⟩:=h;rfl
 |.str,_,h=>by obtain⟨b,rfl⟩:=h;rfl
 |.slice _,_,h=>by cases h
 |.struct fs,cs,h=>by rw [lG] at h;rw [Sh.size];exact mM.length fs cs h
theorem mM.length:∀(fs:List Sh) (cs:List Value),mM fs cs→cs.length=Sh.mK fs
 |[],cs,h=>by rw [mM] at h;subst h;rfl
 |f::fs,cs,h=>by
  rw [mM] at h;obtain⟨a,b,rfl,h1,h2⟩:=h;rw [List.length_append,lG.length f a h1,mM.length fs b h2,Sh.mK]
end
def Sh.oH:Sh→List Value→Value
 |.struct _,cs=>.agg cs.toArray
 |_,c::_=>c
 |_,[]=>.agg #[]
section
variable{P:Program} {w:World}
theorem Ox {f:Sh} {t o:Nat} {xs:Array Value} {a b:List Value} (he:lI P f t=true) (hs:P.cellsOf t=f.size) (hd:xs.toList.drop o=a++b) (hT:lG f a):(part t xs o).run P w=.ok (f.oH a) w:=by
 have hl:=lG.length f a hT
 have h0:∀c,a=[c]→xs[o]?=some c:=by
  intro c hc;have:(xs.toList.drop o)[0]?=some c:=by rw [hd,hc];rfl
  simpa using this
 cases f with
 |slice _=>cases hT
 |int k=>
  rw [lI] at he;split at he
  ·rename_i ht;obtain⟨n,rfl⟩:=hT;simp [part,isAgg,run_underlying ht,h0 _ rfl,Sh.oH]
  ·cases he
 |bool=>
  rw [lI] at he;split at he
  ·rename_i ht;obtain⟨n,rfl⟩:=hT;simp [part,isAgg,run_underlying ht,h0 _ rfl,Sh.oH]
  ·cases he
 |str=>
  rw [lI] at he;split at he
  ·rename_i ht;obtain⟨n,rfl⟩:=hT;simp [part,isAgg,run_underlying ht,h0 _ rfl,Sh.oH]
  ·cases he
 |struct fs=>
  rw [lI] at he;split at he
  ·rename_i gs ht;obtain⟨i,hi⟩:=info_of_underlying ht
   have hx:xs.extract o (o+P.cellsOf t)=a.toArray:=by
    apply Array.toList_inj.1;rw [Array.toList_extract];simp only [List.extract,Nat.add_sub_cancel_left];rw [hd,hs,←hl];simp
   have hz:(sizeOf t).run P w=.ok (P.cellsOf t) w:=Go.run_sizeOf w hi;simp [part,isAgg,run_underlying ht,hz,hx,Sh.oH]
  ·cases he
mutual
theorem Jm:∀(s:Sh) (t d:Nat) (c1 c2:List Value),lI P s t=true→s.depth≤d→lG s c1→lG s c2→(Op.equalIn d t (s.oH c1) (s.oH c2)).run P w=.ok (lH c1 c2) w
 |.int k,t,d+1,c1,c2,he,_,h1,h2=>by
  rw [lI] at he;split at he
  ·rename_i ht;obtain⟨a,rfl⟩:=h1;obtain⟨b,rfl⟩:=h2;simp [Sh.oH,lH,BG,run_equalIn_int w d t k _ a b ht]
  ·cases he
 |.bool,t,d+1,c1,c2,he,_,h1,h2=>by
  rw [lI] at he;split at he
  ·rename_i ht;obtain⟨a,rfl⟩:=h1;obtain⟨b,rfl⟩:=h2;simp [Sh.oH,lH,BG,run_equalIn_bool w d t a b ht]
  ·cases he
 |.str,t,d+1,c1,c2,he,_,h1,h2=>by
  rw [lI] at he;split at he
  ·rename_i ht;obtain⟨a,rfl⟩:=h1;obtain⟨b,rfl⟩:=h2;simp [Sh.oH,lH,BG,run_equalIn_string w d t a b ht]
  ·cases he
 |.slice _,_,_,_,_,_,_,h1,_=>by cases h1
 |.struct fs,t,d+1,c1,c2,he,hd,h1,h2=>by
  rw [lI] at he;split at he
  ·rename_i gs ht;simp only [Bool.and_eq_true,Bool.not_eq_true',decide_eq_true_eq] at he;obtain⟨hp,he,hs⟩:=he;have mI:P.fieldsOf t=gs:=by simp [Program.fieldsOf,ht]
   rw [lG] at h1 h2;have:=Oy fs gs.toList 0 d c1.toArray c2.toArray he (by rw [Sh.depth] at hd;omega) (by simpa using h1) (by simpa using h2);simp only [Sh.oH];rw [run_equalIn_struct w d t _ _ (by rw [mI];exact ht) hp,mI,this];simp
  ·cases he
 |.int _,_,0,_,_,_,hd,_,_=>by simp [Sh.depth] at hd
 |.bool,_,0,_,_,_,hd,_,_=>by simp [Sh.depth] at hd
 |.str,_,0,_,_,_,hd,_,_=>by simp [Sh.depth] at hd
 |.struct _,_,0,_,_,_,hd,_,_=>by simp [Sh.depth] at hd
theorem Oy:∀(fs:List Sh) (gs:List Field) (o d:Nat) (xs ys:Array Value),yy P fs gs o=true→Sh.FG fs≤d→mM fs (xs.toList.drop o)→mM fs (ys.toList.drop o)→
  (Op.eqFields d xs ys gs).run P w=.ok (lH (xs.toList.drop o) (ys.toList.drop o)) w
 |[],[],o,d,xs,ys,_,_,h1,h2=>by
  rw [mM] at h1 h2;rw [h1,h2];simp [Op.eqFields,lH]
 |f::fs,g::gs,o,d,xs,ys,he,hd,h1,h2=>by
  rw [yy] at he;simp only [Bool.and_eq_true,decide_eq_true_eq] at he;obtain⟨hn,ho,he,hs,her⟩:=he;rw [mM] at h1 h2;obtain⟨a1,b1,e1,t1,r1⟩:=h1;obtain⟨a2,b2,e2,t2,r2⟩:=h2;rw [Sh.FG] at hd;have p1:=Ox (w:=w) he hs e1 t1;have p2:=Ox (w:=w) he hs e2 t2;have l1:=lG.length f a1 t1;have l2:=lG.length f a2 t2;have d1:xs.toList.drop (o+f.size)=b1:=by rw [←List.drop_drop,e1,←l1];simp
  have d2:ys.toList.drop (o+f.size)=b2:=by rw [←List.drop_drop,e2,←l2];simp
  have q:=Jm f g.type d a1 a2 he (by omega) t1 t2;have rest:=Oy fs gs (o+f.size) d xs ys her (by omega) (by rw [d1];exact r1) (by rw [d2];exact r2);rw [d1,d2] at rest;simp only [Op.eqFields,hn,ne_eq,not_false_eq_true,if_true,Sem.run_bind,ho,p1,p2,q,Result.andThen_ok];rw [e1,e2,Ow (by rw [l1,l2])];cases hq:lH a1 a2
  ·simp
  ·simpa using rest
 |[],_::_,_,_,_,_,he,_,_,_=>by simp [yy] at he
 |_::_,[],_,_,_,_,he,_,_,_=>by simp [yy] at he
end
mutual
def ki:Sh→List AV→Option (List AV)
 |.int k,.sc (.int k' _)::r=>match decide (k'=k) with
  |true=>some r
  |false=>none
 |.bool,.sc (.bool _)::r=>some r
 |.str,.sc (.string _)::r=>some r
 |.struct fs,l=>BH fs l
 |_,_=>none
def BH:List Sh→List AV→Option (List AV)
 |[],l=>some l
 |f::fs,l=>match ki f l with
  |some r=>BH fs r
  |none=>none
end
mutual
theorem BI:∀(s:Sh) (l r:List AV),ki s l=some r→∃c,l=c.map .sc++r∧lG s c
 |.int k,l,r,h=>by
  cases l with
  |nil=>simp [ki] at h
  |cons a l=>
   cases a<;>try(simp [ki] at h;done)
   rename_i v;cases v<;>try(simp [ki] at h;done)
   rename_i k' n;rw [ki] at h;split at h
   ·rename_i hd;obtain rfl:=of_decide_eq_true hd;cases h;exact⟨[.int k' n],rfl,by rw [lG];exact⟨n,rfl⟩⟩
   ·cases h
 |.bool,l,r,h=>by
  cases l with
  |nil=>simp [ki] at h
  |cons a l=>
   cases a<;>try(simp [ki] at h;done)
   rename_i v;cases v<;>try(simp [ki] at h;done)
   rename_i b;rw [ki] at h;cases h;exact⟨[.bool b],rfl,by rw [lG];exact⟨b,rfl⟩⟩
 |.str,l,r,h=>by
  cases l with
  |nil=>simp [ki] at h
  |cons a l=>
   cases a<;>try(simp [ki] at h;done)
   rename_i v;cases v<;>try(simp [ki] at h;done)
   rename_i b;rw [ki] at h;cases h;exact⟨[.string b],rfl,by rw [lG];exact⟨b,rfl⟩⟩
 |.slice e,l,r,h=>by simp [ki] at h
 |.struct fs,l,r,h=>by
  rw [ki] at h;obtain⟨c,h1,h2⟩:=Oz fs l r h;exact⟨c,h1,by rw [lG];exact h2⟩
theorem Oz:∀(fs:List Sh) (l r:List AV),BH fs l=some r→∃c,l=c.map .sc++r∧mM fs c
 |[],l,r,h=>by
  rw [BH] at h;cases h;exact⟨[],rfl,by rw [mM]⟩
 |f::fs,l,r,h=>by
  rw [BH] at h;split at h
  ·rename_i q hq;obtain⟨c,rfl,h1⟩:=BI f l q hq;obtain⟨c',rfl,h2⟩:=Oz fs q r h;exact⟨c++c',by simp,by rw [mM];exact⟨c,c',rfl,h1,h2⟩⟩
  ·cases h
end
def yz:List AV→List AV→Bool
 |[],[]=>true
 |.sc a::l,.sc b::m=>BG a b&&yz l m
 |_,_=>false
theorem Jn:∀(l m:List Value),yz (l.map .sc) (m.map .sc)=lH l m
 |[],[]=>rfl
 |a::l,b::m=>by simp [yz,lH,Jn l m]
 |[],_::_=>rfl
 |_::_,[]=>rfl
theorem Rel.yA {R:Nat→Prop} {φ:Ph} {c:List Value} {v:Value} (h:Rel w R φ (.agg (c.map .sc)) v):v=.agg c.toArray:=by
 cases h with
 |agg hl hr=>
  rename_i vs;congr 1;apply Array.ext_getElem?;intro i;by_cases hi:i<c.length
  ·have hv:i<vs.size:=by rw [←hl];simpa using hi
   have:=hr i (.sc c[i]) vs[i] (by simp [hi]) (by simp [hv]);have:=this.gI;simp [hi,hv,this]
  ·have hv:¬i<vs.size:=by rw [←hl];simpa using hi
   rw [Array.getElem?_eq_none (by omega),Array.getElem?_eq_none (by simp;omega)]
variable{s:St} {o:Oper}
theorem FH {t ty:Nat} {x y:Operand} {cs ds:List AV} (sh:Sh) (hk:(match sh with|.struct _=>true|_=>false)=true) (he:lI P sh t=true) (hm:P.eqGuardType P.depth t=false) (Jo:sh.depth≤10000) (ho:o.op=.binOp .eql t x y ty)
  (hx:s.ev x=.agg cs) (hy:s.ev y=.agg ds) (h1:ki sh cs=some []) (h2:ki sh ds=some []):cM P o s ⟨.sc (.bool (yz cs ds)),[],[],[]⟩:=by
 intro s' _ bS _ _;refine f_ fun c φ R a w hs=>?_
 obtain⟨c1,rfl,t1⟩:=BI sh cs [] h1;obtain⟨c2,rfl,t2⟩:=BI sh ds [] h2;simp only [List.append_nil] at*
 have g1:=hs.ev x;rw [bS x (by simp [ho,Op.operands]),hx] at g1;have g1:=g1.yA;have g2:=hs.ev y;rw [bS y (by simp [ho,Op.operands]),hy] at g2;have g2:=g2.yA;cases sh with
 |struct fs=>
  have fG:=Jm (w:=w) (.struct fs) t 10000 c1 c2 he Jo t1 t2;simp only [Sh.oH] at fG;refine⟨.bool (lH c1 c2),?_,?_⟩
  ·simp [execOp,ho,g1,g2,run_eqGuard_agg w .eql t x y _ _ hm,run_eql_struct w t,fG]
  ·rw [Jn];exact .sc rfl
 |_=>cases hk
theorem tL {t ty:Nat} {x y:Operand} {cs ds:List AV} (sh:Sh) (hk:(match sh with|.struct _=>true|_=>false)=true) (he:lI P sh t=true) (hm:P.eqGuardType P.depth t=false) (Jo:sh.depth≤10000) (ho:o.op=.binOp .neq t x y ty)
  (hx:s.ev x=.agg cs) (hy:s.ev y=.agg ds) (h1:ki sh cs=some []) (h2:ki sh ds=some []):cM P o s ⟨.sc (.bool (!yz cs ds)),[],[],[]⟩:=by
 intro s' _ bS _ _;refine f_ fun c φ R a w hs=>?_
 obtain⟨c1,rfl,t1⟩:=BI sh cs [] h1;obtain⟨c2,rfl,t2⟩:=BI sh ds [] h2;simp only [List.append_nil] at*
 have g1:=hs.ev x;rw [bS x (by simp [ho,Op.operands]),hx] at g1;have g1:=g1.yA;have g2:=hs.ev y;rw [bS y (by simp [ho,Op.operands]),hy] at g2;have g2:=g2.yA;cases sh with
 |struct fs=>
  have fG:=Jm (w:=w) (.struct fs) t 10000 c1 c2 he Jo t1 t2;simp only [Sh.oH] at fG;refine⟨.bool (!lH c1 c2),?_,?_⟩
  ·simp [execOp,ho,g1,g2,run_eqGuard_agg w .neq t x y _ _ hm,run_neq_struct w t,fG]
  ·rw [Jn];exact .sc rfl
 |_=>cases hk
end
variable{lim:Nat}
def Jp (L:Mem) (ρ:cC) (xs ys:List AV):Prop:=(xs=ys∧∀y∈ys,eE y=true)∨(gb L ρ xs ys∧vx xs ys)
def nI (L:Mem) (ρ:cC) (m:Mem):Mem→Prop
 |[]=>True
 |(_,none)::_=>False
 |(b',some k)::l=>(match lk b' ρ with
   |some (some b)=>∃k0,lk b m=some (some k0)∧k0.ty=k.ty∧k0.bW=k.bW∧Jp L ρ k0.xs k.xs
   |some none=>k.xs=[]
   |none=>False)∧nI L ρ m l
def ri (L:Mem) (ρ:cC) (s:St):List (Nat×AV)→Prop
 |[]=>True
 |(t,av)::l=>bE L ρ (s.get t) av∧ri L ρ s l
theorem Jq {L:Mem} {ρ:cC} {m:Mem}:∀{M:Mem},nI L ρ m M→∀b' k,(b',some k)∈M→(match lk b' ρ with
   |some (some b)=>∃k0,lk b m=some (some k0)∧k0.ty=k.ty∧k0.bW=k.bW∧Jp L ρ k0.xs k.xs
   |some none=>k.xs=[]
   |none=>False)
 |[],_,_,_,h=>by cases h
 |(j,none)::l,hw,b',k,h=>by simp [nI] at hw
 |(j,some q)::l,hw,b',k,h=>by
  simp only [nI] at hw;rcases List.mem_cons.1 h with h|h
  ·cases h;exact hw.1
  ·exact Jq hw.2 b' k h
theorem OA {L:Mem} {ρ:cC} {s:St}:∀{l:List (Nat×AV)},ri L ρ s l→∀t av,(t,av)∈l→bE L ρ (s.get t) av
 |[],_,t,av,h=>by cases h
 |(j,q)::l,hw,t,av,h=>by
  simp only [ri] at hw;rcases List.mem_cons.1 h with h|h
  ·cases h;exact hw.1
  ·exact OA hw.2 t av h
theorem aaz {L:Mem} {ρ:cC} {x y:AV} (h:bE L ρ x y) (hl:x.cells.length=y.cells.length):∀(j:Nat) (c d:AV),x.cells[j]?=some c→y.cells[j]?=some d→bE L ρ c d:=by
 intro j c d hc hd;by_cases hy:y=.bot
 ·subst hy;cases j with
  |zero=>simp [AV.cells] at hd;subst hd;cases c<;>simp [bE]
  |succ j=>simp [AV.cells] at hd
 ·have one:∀{x y:AV},x.cells=[x]→y.cells=[y]→bE L ρ x y→∀(j:Nat) (c d:AV),x.cells[j]?=some c→y.cells[j]?=some d→bE L ρ c d:=by
   intro x y h1 h2 h j c d hc hd;rw [h1] at hc;rw [h2] at hd;cases j with
   |zero=>simp at hc hd;subst hc;subst hd;exact h
   |succ j=>simp at hc
  cases x<;>cases y<;>first|exact absurd rfl hy|(simp [bE] at h;done)|exact one rfl rfl h j c d hc hd|skip
  rename_i cs ds;simp only [bE] at h;exact(l_ h).2 j c d hc hd
def Jr (R:Nat→Prop) (φ:Ph) (L:Mem) (n:Nat):Prop:=R n∨cG φ L n
theorem aaA {φ:Ph} {R:Nat→Prop} {mm:Mem} {w:World} (hs:gq w R φ mm) {L:Mem} {ρ:cC} {M:Mem} (hL:mF ρ mm L) (hi:iC ρ=true) (Bo:(ρ.all fun p=>(lk p.1 M).isSome)=true) (hM:nI L ρ mm M):
  gq w (Jr R φ L) (φ.via ρ) M∧(∀b x,φ.via ρ b=some x→∃y,lk b M=some y)∧(∀b k h,lk b M=some (some k)→φ.via ρ b=some (some h)→∃b0 k0,lk b ρ=some (some b0)∧lk b0 mm=some (some k0)∧φ b0=some (some h)):=by
 have IS:=Fe hi
 have hm:∀b k h,lk b L=some (some k)→φ b=some (some h)→lk b mm=some (some k)∧Jr R φ L h.cA:=by
  intro b k h hb hp;obtain⟨k',e,h1,_⟩:=yj hL b _ (fR hb);cases e;exact⟨h1,.inr ⟨b,k,h,hb,hp,rfl⟩⟩
 have src:∀b k h,lk b M=some (some k)→φ.via ρ b=some (some h)→∃b0 k0,lk b ρ=some (some b0)∧lk b0 mm=some (some k0)∧φ b0=some (some h)∧k0.ty=k.ty∧k0.bW=k.bW∧Jp L ρ k0.xs k.xs:=by
  intro b k h hb hv;have:=Jq hM b k (fR hb);unfold Ph.via at hv;cases hq:lk b ρ with
  |none=>simp [hq] at hv
  |some o=>
   cases o with
   |none=>simp [hq] at hv
   |some b0=>
    simp only [hq] at hv this;obtain⟨k0,h0,h1,h2,h3⟩:=this;exact⟨b0,k0,rfl,h0,hv,h1,h2,h3⟩
 refine⟨⟨?_,?_,?_,hs.gl.mono (fun _ _=>rfl) (fun _ h=>.inl h)⟩,?_,?_⟩
 ·intro b k hb;have BJ:=Jq hM b k (fR hb);cases hq:lk b ρ with
  |none=>simp [hq] at BJ
  |some o=>
   cases o with
   |none=>
    simp only [hq] at BJ;exact⟨none,by simp [Ph.via,hq],BJ⟩
   |some b0=>
    simp only [hq] at BJ;obtain⟨k0,h0,h1,h2,h3⟩:=BJ;obtain⟨oh,ho,hr⟩:=hs.rel b0 k0 h0;refine⟨oh,by simp [Ph.via,hq,ho],?_⟩;cases oh with
    |none=>
     simp only [iB] at hr⊢;rw [hr] at h3;rcases h3 with⟨h3,_⟩|⟨h3,_⟩
     ·exact h3.symm
     ·have:=(l_ h3).1;exact List.eq_nil_of_length_eq_zero (by simpa using this.symm)
    |some x=>
     obtain⟨r1,r2,r3,r4,C,r5,r6,r7⟩:=hr;rcases h3 with⟨h3,h4⟩|⟨h3,h4⟩
     ·refine⟨by rw [←h2,r1],r2,by rw [←h3];exact r3,r4,C,by rw [←h1];exact r5,r6,fun i y hy=>?_⟩;have IT:=hy;rw [←h3] at hy;obtain⟨q1,q2⟩:=r7 i y hy;refine⟨q1,fun j c' hj=>?_⟩;obtain⟨u,hu,gL⟩:=q2 j c' hj;refine⟨u,hu,(gL.eE ?_).more fun _ h=>.inl h⟩;have hn:=h4 y (List.mem_of_getElem? IT);cases y with
      |agg cs=>exact vw (cs:=cs) (by simpa [eE] using hn) j c' hj
      |_=>
       simp only [AV.cells] at hj;cases j with
       |zero=>simp at hj;subst hj;exact hn
       |succ j=>simp at hj
     ·obtain⟨g1,g2⟩:=l_ h3;refine⟨by rw [←h2,r1],r2,by rw [←g1];exact r3,r4,C,by rw [←h1];exact r5,r6,fun i y hy=>?_⟩;have bB:=(List.getElem?_eq_some_iff.1 hy).1;have hx:k0.xs[i]?=some (k0.xs[i]'(by omega)):=List.getElem?_eq_getElem (by omega)
      obtain⟨q1,q2⟩:=r7 i _ hx;have hlen:=IQ h4 i _ y hx hy;refine⟨by rw [←hlen];exact q1,fun j d hj=>?_⟩;have eR:j<(k0.xs[i]'(by omega)).cells.length:=by rw [hlen];exact(List.getElem?_eq_some_iff.1 hj).1
      obtain⟨u,hu,gL⟩:=q2 j _ (List.getElem?_eq_getElem eR);refine⟨u,hu,?_⟩;exact mE hs (m:=L) (fun _ h=>.inl h) hm gL (aaz (g2 i _ y hx hy) hlen j _ d (List.getElem?_eq_getElem eR) hj)
 ·intro b b' k k' h h' hb gH hv Bp heq;obtain⟨q,kq,e1,e2,e3,_⟩:=src b k h hb hv;obtain⟨q',IU,f1,f2,f3,_⟩:=src b' k' h' gH Bp;have:=hs.inj q q' kq IU h h' e2 f2 e3 f3 heq;subst this;exact IS b b' q e1 f1
 ·intro b k h hb hv;obtain⟨q,kq,e1,e2,e3,_⟩:=src b k h hb hv;rintro(hR|⟨b1,k1,h1,g1,g2,g3⟩)
  ·exact hs.fA q kq h e2 e3 hR
  ·obtain⟨k1',e,f1,f2⟩:=yj hL b1 _ (fR g1);have:=hs.inj b1 q k1' kq h1 h f1 e2 g2 e3 g3;subst this;exact f2 (Fg e1)
 ·intro b x hx;unfold Ph.via at hx;cases hq:lk b ρ with
  |none=>simp [hq] at hx
  |some o=>
   have:=List.all_eq_true.1 Bo _ (fR hq);exact Option.isSome_iff_exists.1 this
 ·intro b k h hb hv;obtain⟨q,kq,e1,e2,e3,_⟩:=src b k h hb hv;exact⟨q,kq,e1,e2,e3⟩
def BK (s h:St):Prop:=∃L ρ,s.n=h.n∧pn ρ h.m=true∧mF ρ s.m L∧ri L ρ s h.t∧nI L ρ s.m h.m
theorem dh.freeze {c:Ctx} {s h:St} {a:Act} {w:World} (hs:dh c s a w) (hw:BK s h):dh c h a w:=by
 obtain⟨φ,R,hs⟩:=hs;obtain⟨L,ρ,h1,h2,hL,h3,h4⟩:=hw;obtain⟨i1,i2⟩:=vy h2;obtain⟨m1,m2,m3⟩:=aaA hs.m hL i1 i2 h4
 have yl:∀b k h,lk b L=some (some k)→φ b=some (some h)→lk b s.m=some (some k):=by
  intro b k h hb hp;obtain⟨k',e,h1,_⟩:=yj hL b _ (fR hb);cases e;exact h1
 refine⟨φ.via ρ,Jr R φ L,hs.n.trans h1,fun t av ht=>?_,m1,m2,fun b k x hb hx=>?_,fun n h=>.inl (hs.R0 n h),?_,?_,hs.ext,hs.d,IV h2 hs.eK⟩
 ·exact mE hs.m (m:=L) (fun _ h=>.inl h) (fun b k h hb hp=>⟨yl b k h hb hp,.inr ⟨b,k,h,hb,hp,rfl⟩⟩) (hs.get t) (OA h3 t av (fR ht))
 ·obtain⟨b0,k0,_,e1,e2⟩:=m3 b k x hb hx;exact hs.fresh b0 k0 x e1 e2
 ·rintro n (h|⟨b,k,x,g1,g2,rfl⟩)
  ·exact hs.Rn n h
  ·exact .inr (hs.fresh b k x (yl b k x g1 g2) g2)
 ·rintro n (h|⟨b,k,x,g1,g2,rfl⟩)
  ·exact hs.Rb n h
  ·obtain⟨oh,ho,hr⟩:=hs.m.rel b k (yl b k x g1 g2);rw [g2] at ho;cases ho;obtain⟨_,_,_,_,C,r5,_⟩:=hr;exact(Array.getElem?_eq_some_iff.1 r5).1
section
variable{P:Program} {tt:TT} {Q:Exit→St→Prop} {s:St}
theorem aaC {body:Code} {h:St} (hw:BK s h) (hh:dO P lim body Q h):dO P lim body Q s:=
 fun c eu a w hs=>hh c eu a w (hs.freeze hw)
theorem Js {L:Mem} {ρ:cC} {s:St}:∀{a b:List (Nat×AV)},ri L ρ s a→ri L ρ s b→ri L ρ s (a++b)
 |[],_,_,h=>h
 |(_,_)::_,_,h,h'=>⟨h.1,Js h.2 h'⟩
theorem Jt {L:Mem} {ρ:cC} {m:Mem}:∀{a b:Mem},nI L ρ m a→nI L ρ m b→nI L ρ m (a++b)
 |[],_,_,h=>h
 |(_,none)::_,_,h,_=>by simp [nI] at h
 |(_,some _)::_,_,h,h'=>⟨h.1,Jt h.2 h'⟩
mutual
theorem OB {L:Mem} {ρ:cC}:∀(x y:AV),bE [] ρ x y→bE L ρ x y
 |.agg cs,.agg ds,h=>by simp only [bE] at h⊢;exact yB cs ds h
 |.bR cs,.bR ds,h=>by simp only [bE] at h⊢;exact yB cs ds h
 |.cE f a b,.cE f' a' b',h=>by simp only [bE] at h⊢;exact⟨h.1,yB a a' h.2.1,yB b b' h.2.2⟩
 |.arr b off len,.sl ys,h=>by simp [bE,yc,lk] at h
 |.sc v,y,h=>by cases y<;>simp only [bE] at h⊢<;>exact h
 |.bF,y,h=>by cases y<;>simp only [bE] at h⊢<;>exact h
 |.sl _,y,h=>by cases y<;>simp only [bE] at h⊢<;>exact h
 |.vp _,y,h=>by cases y<;>simp only [bE] at h⊢<;>exact h
 |.iQ _ _ _,y,h=>by cases y<;>simp only [bE] at h⊢<;>exact h
 |.jd _,y,h=>by cases y<;>simp only [bE] at h⊢<;>exact h
 |.agg _,.jd _,h=>by simp [bE] at h
 |.bR _,.jd _,h=>by simp [bE] at h
 |.cE _ _ _,.jd _,h=>by simp [bE] at h
 |.arr _ _ _,.jd _,h=>by simp [bE] at h
 |.agg _,.iQ _ _ _,h=>by simp [bE] at h
 |.bR _,.iQ _ _ _,h=>by simp [bE] at h
 |.cE _ _ _,.iQ _ _ _,h=>by simp [bE] at h
 |.arr _ _ _,.iQ _ _ _,h=>by simp [bE] at h
 |.ref _ _ _,y,h=>by cases y<;>simp only [bE] at h⊢<;>first|exact h|(simp [Fb,lk] at h;done)
 |.bot,y,h=>by cases y<;>simp only [bE] at h⊢
 |.agg _,.bot,_=>by simp [bE]
 |.bR _,.bot,_=>by simp [bE]
 |.cE _ _ _,.bot,_=>by simp [bE]
 |.arr _ _ _,.bot,_=>by simp [bE]
 |.arr _ _ _,.arr _ _ _,h=>by simp only [bE] at h⊢;exact h
 |.agg _,.sc _,h=>by simp [bE] at h
 |.agg _,.bF,h=>by simp [bE] at h
 |.agg _,.bR _,h=>by simp [bE] at h
 |.agg _,.sl _,h=>by simp [bE] at h
 |.agg _,.vp _,h=>by simp [bE] at h
 |.agg _,.ref _ _ _,h=>by simp [bE] at h
 |.agg _,.arr _ _ _,h=>by simp [bE] at h
 |.agg _,.cE _ _ _,h=>by simp [bE] at h
 |.bR _,.sc _,h=>by simp [bE] at h
 |.bR _,.bF,h=>by simp [bE] at h
 |.bR _,.agg _,h=>by simp [bE] at h
 |.bR _,.sl _,h=>by simp [bE] at h
 |.bR _,.vp _,h=>by simp [bE] at h
 |.bR _,.ref _ _ _,h=>by simp [bE] at h
 |.bR _,.arr _ _ _,h=>by simp [bE] at h
 |.bR _,.cE _ _ _,h=>by simp [bE] at h
 |.cE _ _ _,.sc _,h=>by simp [bE] at h
 |.cE _ _ _,.bF,h=>by simp [bE] at h
 |.cE _ _ _,.agg _,h=>by simp [bE] at h
 |.cE _ _ _,.bR _,h=>by simp [bE] at h
 |.cE _ _ _,.sl _,h=>by simp [bE] at h
 |.cE _ _ _,.vp _,h=>by simp [bE] at h
 |.cE _ _ _,.ref _ _ _,h=>by simp [bE] at h
 |.cE _ _ _,.arr _ _ _,h=>by simp [bE] at h
 |.arr _ _ _,.sc _,h=>by simp [bE] at h
 |.arr _ _ _,.bF,h=>by simp [bE] at h
 |.arr _ _ _,.agg _,h=>by simp [bE] at h
 |.arr _ _ _,.bR _,h=>by simp [bE] at h
 |.arr _ _ _,.vp _,h=>by simp [bE] at h
 |.arr _ _ _,.ref _ _ _,h=>by simp [bE] at h
 |.arr _ _ _,.cE _ _ _,h=>by simp [bE] at h
theorem yB {L:Mem} {ρ:cC}:∀(x y:List AV),gb [] ρ x y→gb L ρ x y
 |[],[],h=>h
 |c::cs,d::ds,h=>by simp only [gb] at h⊢;exact⟨OB c d h.1,yB cs ds h.2⟩
 |[],_::_,h=>by simp [gb] at h
 |_::_,[],h=>by simp [gb] at h
end
theorem Ju {L:Mem} {ρ:cC} {s:St}:∀{l:List (Nat×AV)},pj ρ s l→ri L ρ s l
 |[],_=>trivial
 |(_,_)::_,h=>⟨OB _ _ h.1,Ju h.2⟩
theorem Jv {L:Mem} {ρ:cC} {m:Mem}:∀{l:Mem},et ρ m l→nI L ρ m l
 |[],_=>trivial
 |(_,none)::_,h=>by simp [et] at h
 |(b,some k)::l,h=>by
  simp only [et] at h;simp only [nI];refine⟨?_,Jv h.2⟩;have h1:=h.1;cases hq:lk b ρ with
  |none=>simp [hq] at h1
  |some o=>
   cases o with
   |none=>simp only [hq] at h1⊢;exact h1
   |some q=>
    simp only [hq] at h1⊢;obtain⟨k0,e1,e2,e3,e4⟩:=h1;refine⟨k0,e1,e2,e3,?_⟩;rcases e4 with e4|⟨e4,e5⟩
    ·exact .inl e4
    ·exact .inr ⟨yB _ _ e4,e5⟩
def BL (P:Program) (fn:Func) (r:AV) (s:St):Prop:=mz P fn [] r [] s∨∃h,BK s h∧mz P fn [] r [] h
theorem sn {fn:Func} {s:St} {vs:List AV} {v r:AV} (ht:ff P tt) (hr:oa tt s fn.results.toList=some vs) (hv:rV vs=some v) (h:bE [] [] v r):BL P fn r s:=
 .inl (bp ht hr hv h)
end
end Go.Ab
namespace Go.Ab
open Go.RowKit
section
variable{P:Program} {tt:TT} {ops:Array Oper} {draw:Bool} {Q:St→Prop} {acc:List (Option dN)} {l:List Oper}
theorem aaD {o:Oper} {n ty e b len bt bz:Nat} {t t':List (Nat×AV)} {m:Mem} {x y:Operand} {D E:ae} {k:IntKind} {i:Nat} {xs:List AV} (ht:ff P tt) (hi:i<len) (hg:dV ops ⟨n,t,m⟩ o=some true) (ho:o.op=.indexAddr ty x y) (hD:lk ty tt=some D) (hk:D.k=.slice e) (hE:lk e tt=some E)
  (hx:(⟨n,t,m⟩:St).ev x=.arr b 0 len) (hy:(⟨n,t,m⟩:St).ev y=.sc (.int k (i:Int))) (hb:lk b m=some (some ⟨bt,bz,xs⟩)) (hz:Nat.beq bz E.size=true) (hp:fB n t o.dst (.ref b i 0)=some t')
  (h:Go P ops draw Q l ⟨n,t',m⟩ (some ⟨.ref b i 0,[],[b],[]⟩::acc)):Go P ops draw Q (o::l) ⟨n,t,m⟩ acc:=by
 have hA:cM P o ⟨n,t,m⟩ ⟨.ref b i 0,[],[b],[]⟩:=by
  have:=Ik (P:=P) (o:=o) (s:=⟨n,t,m⟩) ho (ht _ _ hD) hk (ht _ _ hE) hx hy hb hz (by omega) (by omega);simpa using this
 exact eL hg hA rfl hp rfl h
theorem aaE {o:Oper} {n ty k e:Nat} {t t':List (Nat×AV)} {m:Mem} {x y:Operand} {D E:ae} {kd:IntKind} {i:Nat} {cs:List AV} {v:AV} (ht:ff P tt) (hi:i<k) (hv:rd E cs (i*E.size)=some v) (hg:dV ops ⟨n,t,m⟩ o=some true) (ho:o.op=.index ty x y) (hD:lk ty tt=some D) (hk:D.k=.array k e) (hE:lk e tt=some E)
  (hx:(⟨n,t,m⟩:St).ev x=.agg cs) (hy:(⟨n,t,m⟩:St).ev y=.sc (.int kd (i:Int))) (hp:fB n t o.dst v=some t')
  (h:Go P ops draw Q l ⟨n,t',m⟩ (some ⟨v,[],[],[]⟩::acc)):Go P ops draw Q (o::l) ⟨n,t,m⟩ acc:=
 eL hg (Ny (P:=P) (o:=o) (s:=⟨n,t,m⟩) ho (ht _ _ hD) hk (ht _ _ hE) hx hy (by omega) (by omega) (by simpa using hv)) rfl hp rfl h
end
variable{lim:Nat}
section
variable{P:Program} {tt:TT}
theorem ed {Q:Exit→St→Prop} {body:Code} {n:Nat} {t:List (Nat×AV)} {m:Mem} (K KB:List Nat) (L:Mem) (ρ:cC) (mt:List (Nat×AV)) (mm:Mem) {kt:List (Nat×AV)} {km:Mem} (hk:sg t K=some kt) (Jw:si m KB=some km) (hr:pn ρ (mm++km)=true) (ht:yv ρ kt=true) (hm:yw ρ km=true)
  (hL:mF ρ m L) (Jx:ri L ρ ⟨n,t,m⟩ mt) (Jy:nI L ρ m mm) (h:dO P lim body Q ⟨n,mt++kt,mm++km⟩):dO P lim body Q ⟨n,t,m⟩:=
 aaC (h:=⟨n,mt++kt,mm++km⟩) ⟨L,ρ,rfl,hr,hL,Js Jx (Ju (vH hk ht)),Jt Jy (Jv (vI Jw hm))⟩ h
def iD (s:ByteArray) (k:Nat):Int:=((s.data[k]?).getD 0).toNat
variable{ops:Array Oper} {draw:Bool} {Q:St→Prop} {acc:List (Option dN)} {l:List Oper}
theorem aaF {o:Oper} {n ty:Nat} {t t':List (Nat×AV)} {m:Mem} {x y:Operand} {D:ae} {kd:IntKind} {i:Nat} {s:ByteArray} (ht:ff P tt) (hi:i<s.size) (hg:dV ops ⟨n,t,m⟩ o=some true) (ho:o.op=.index ty x y) (hD:lk ty tt=some D) (hk:D.k=.str)
  (hx:(⟨n,t,m⟩:St).ev x=.sc (.string s)) (hy:(⟨n,t,m⟩:St).ev y=.sc (.int kd (i:Int))) (hp:fB n t o.dst (.sc (.int .u8 (iD s i)))=some t')
  (h:Go P ops draw Q l ⟨n,t',m⟩ (some ⟨.sc (.int .u8 (iD s i)),[],[],[]⟩::acc)):Go P ops draw Q (o::l) ⟨n,t,m⟩ acc:=by
 have nD:i<s.data.size:=hi;have hA:=YX (P:=P) (o:=o) (s:=⟨n,t,m⟩) (u:=s[i]) ho (ht _ _ hD) hk hx hy (by omega) (by simp [hi])
 have e:((s[i]:UInt8).toNat:Int)=iD s i:=by
  unfold iD;rw [Array.getElem?_eq_getElem nD];rfl
 rw [e] at hA;exact eL hg hA rfl hp rfl h
end
end Go.Ab
namespace Go.Ab
open Go.RowKit
variable{lim:Nat}
section
variable{α β X Y:Type}
def cU (x:α) (K:α→β):β:=K x
theorem dH {x:α} {K:α→β} {r:β} (h:cU x K=r):∃v,x=v∧K v=r:=⟨x,rfl,h⟩
theorem ai {c:Bool} {A B r:α} (h:cond c A B=r) (hc:c=true):A=r:=by subst hc;exact h
theorem aj {c:Bool} {A B r:α} (h:cond c A B=r) (hc:c=false):B=r:=by subst hc;exact h
theorem ah {x:Option α} {K:α→Option β} {r:β} (h:x.bind K=some r):∃v,x=some v∧K v=some r:=Option.bind_eq_some_iff.1 h
theorem ar {a b:α} (h:some a=some b):a=b:=Option.some.inj h
theorem gw {c:Bool} {K:Option α} {r:α} (h:cond c K none=some r):c=true∧K=some r:=by
 cases c with
 |false=>cases h
 |true=>exact⟨rfl,h⟩
theorem bL {γ:Type} {f:α→γ} {K:β→γ} {t:α} {r:γ} (h:Sum.elim f K (κ t)=r):f t=r:=h
theorem dI {γ:Type} {f:α→γ} {K:β→γ} {t:β} {r:γ} (h:Sum.elim f K (ι t)=r):K t=r:=h
theorem bT {x:α} {v:α⊕β} (h:some (κ x)=some v):∃t,some x=some t∧κ t=v:=⟨x,rfl,ar h⟩
theorem aZ {x:β} {v:α⊕β} (h:some (ι x)=some v):∃t,some x=some t∧ι t=v:=⟨x,rfl,ar h⟩
def kj (step:X→Option (X⊕Y)):Nat→X→Option Y
 |0,_=>none
 |n+1,x=>match step x with
  |none=>none
  |some (.inl x')=>kj step n x'
  |some (.inr y)=>some y
open Classical in
def Jz (step:X→Option (X⊕Y)) (x:X):Option Y:=if h:∃y,∃n,kj step n x=some y then some h.choose else none
def bb (step:X→Option (X⊕Y)) (x:X):Option Y:=match kj step 1000000 x with
 |some y=>some y
 |none=>Jz step x
theorem JA {step:X→Option (X⊕Y)}:∀{n m:Nat} {x:X} {y z:Y},kj step n x=some y→kj step m x=some z→y=z
 |0,_,_,_,_,h,_=>by cases h
 |_+1,0,_,_,_,_,h=>by cases h
 |n+1,m+1,x,y,z,h,k=>by
  simp only [kj] at h k;split at h
  ·cases h
  ·rename_i x' hx;rw [hx] at k;exact JA h k
  ·rename_i y' hx;rw [hx] at k;cases h;cases k;rfl
theorem FI {step:X→Option (X⊕Y)} {x:X} {y:Y} (h:bb step x=some y):∃n,kj step n x=some y:=by
 unfold bb at h;split at h
 ·rename_i y' hy;cases h;exact⟨_,hy⟩
 ·unfold Jz at h;split at h
  ·rename_i he;cases h;exact he.choose_spec
  ·cases h
theorem JB {step:X→Option (X⊕Y)} {x:X} {y:Y} {n:Nat} (h:kj step n x=some y):bb step x=some y:=by
 unfold bb;split
 ·rename_i y' hy;rw [JA hy h]
 ·have he:∃y,∃n,kj step n x=some y:=⟨y,n,h⟩
  unfold Jz;rw [dif_pos he];obtain⟨m,hm⟩:=he.choose_spec;rw [JA hm h]
theorem iU {step:X→Option (X⊕Y)} {x x':X} (h:step x=some (.inl x')):bb step x=bb step x':=by
 cases hy:bb step x' with
 |some y=>
  obtain⟨n,hn⟩:=FI hy;exact JB (n:=n+1) (by simp only [kj,h];exact hn)
 |none=>
  cases hz:bb step x with
  |none=>rfl
  |some y=>
   obtain⟨n,hn⟩:=FI hz;cases n with
   |zero=>cases hn
   |succ n=>
    simp only [kj,h] at hn;rw [JB hn] at hy;cases hy
theorem fr {step:X→Option (X⊕Y)} {x:X} {y:Y} (h:step x=some (.inr y)):bb step x=some y:=
 JB (n:=1) (by simp only [kj,h])
theorem p_ {step:X→Option (X⊕Y)} (I:X→Prop) (μ:X→Nat) (G:Y→Prop) (hs:∀x,I x→(∃x',step x=some (.inl x')∧I x'∧μ x'<μ x)∨∃y,step x=some (.inr y)∧G y):∀(x:X),I x→∃y,bb step x=some y∧G y:=by
 intro x
 induction hn:μ x using Nat.strongRecOn generalizing x with
 |ind n ih=>
  intro hx;rcases hs x hx with⟨x',h1,h2,h3⟩|⟨y,h1,h2⟩
  ·rw [iU h1];exact ih (μ x') (hn▸h3) x' rfl h2
  ·exact⟨y,fr h1,h2⟩
open Classical in
def kl (a b:ByteArray):Bool:=a.data.toList==b.data.toList
theorem aaG (a b:ByteArray):(a.toList==b.toList)=kl a b:=by
 unfold kl;rw [ByteArray.toList_eq,ByteArray.toList_eq]
def FJ (y:Y) (R:X→Prop):X⊕Y→Prop
 |.inl x'=>R x'
 |.inr y'=>y'=y
def aC (l:List α):Int→Option α
 |.ofNat n=>l[n]?
 |.negSucc _=>none
@[simp] theorem BM (l:List α) (n:Nat):aC l (n:Int)=l[n]?:=rfl
theorem pz {l:List α} {i:Int} {e:α} (h:aC l i=some e):0≤i∧l[i.toNat]?=some e:=by
 cases i with
 |ofNat n=>exact⟨Int.natCast_nonneg _,h⟩
 |negSucc n=>cases h
theorem aaH {l:List α} {n:Nat} (h:n<l.length):aC l (n:Int)=some l[n]:=by simp [h]
def aU (l:List α) (i:Int) (e:α):List α:=l.set i.toNat e
def cK (bytes:Nat) (xs ys:List α):Option (List α):=bif Nat.ble ((xs.length+ys.length)*bytes) 140737488355328&&Nat.ble (xs.length+ys.length) 9223372036854775807 then some (xs++ys) else none
theorem OC {bytes:Nat} {xs ys zs:List α} (h:cK bytes xs ys=some zs):zs=xs++ys∧(xs.length+ys.length)*bytes≤140737488355328∧xs.length+ys.length≤9223372036854775807:=by
 unfold cK at h;cases hc:(Nat.ble ((xs.length+ys.length)*bytes) 140737488355328&&Nat.ble (xs.length+ys.length) 9223372036854775807) with
 |false=>rw [hc] at h;cases h
 |true=>
  rw [hc] at h;cases h;simp only [Bool.and_eq_true] at hc;exact⟨rfl,Nat.le_of_ble_eq_true hc.1,Nat.le_of_ble_eq_true hc.2⟩
theorem jT {bytes:Nat} {xs ys:List α} (h1:(xs.length+ys.length)*bytes≤140737488355328) (h2:xs.length+ys.length≤9223372036854775807):cK bytes xs ys=some (xs++ys):=by
 unfold cK;rw [Nat.ble_eq_true_of_le h1,Nat.ble_eq_true_of_le h2];rfl
def kn (bytes:Nat) (z:α) (n:Int):Option (List α):=bif decide (0≤n)&&(decide (n≤9223372036854775807)&&decide (n*bytes≤281474976710656)) then some (List.replicate n.toNat z) else none
theorem OD {bytes:Nat} {z:α} {n:Int} {zs:List α} (h:kn bytes z n=some zs):zs=List.replicate n.toNat z∧0≤n∧n≤9223372036854775807∧n*bytes≤281474976710656:=by
 unfold kn at h;cases hc:(decide (0≤n)&&(decide (n≤9223372036854775807)&&decide (n*bytes≤281474976710656))) with
 |false=>rw [hc] at h;cases h
 |true=>
  rw [hc] at h;cases h;simp only [Bool.and_eq_true,decide_eq_true_eq] at hc;exact⟨rfl,hc.1,hc.2.1,hc.2.2⟩
theorem aaI {bytes:Nat} {z:α} {n:Int} (h0:0≤n) (h1:n≤9223372036854775807) (h2:n*bytes≤281474976710656):kn bytes z n=some (List.replicate n.toNat z):=by
 unfold kn;rw [decide_eq_true h0,decide_eq_true h1,decide_eq_true h2];rfl
def pA (s:ByteArray):Int→Option Int
 |.ofNat n=>bif Nat.blt n s.size then some (iD s n) else none
 |.negSucc _=>none
theorem aaJ {s:ByteArray} {i v:Int} (h:pA s i=some v):∃n:Nat,i=n∧n<s.size∧v=iD s n:=by
 cases i with
 |ofNat n=>
  refine⟨n,rfl,?_⟩;have h:(bif Nat.blt n s.size then some (iD s n) else none)=some v:=h;cases hc:Nat.blt n s.size with
  |false=>rw [hc] at h;cases h
  |true=>rw [hc] at h;cases h;exact⟨by simpa [Nat.blt_eq] using hc,rfl⟩
 |negSucc n=>cases h
theorem JC {s:ByteArray} {n:Nat} (h:n<s.size):pA s (n:Int)=some (iD s n):=by
 show cond _ _ _=_
 rw [show Nat.blt n s.size=true by simpa [Nat.blt_eq] using h]
 rfl
end
theorem fH {α:Type} {enc:α→AV} (h:∀x,eE (enc x)=true) (xs:List α):∀y∈xs.map enc,eE y=true:=by
 intro y hy;obtain⟨x,_,rfl⟩:=List.mem_map.1 hy;exact h x
theorem aw {v:AV} (h:eE v=true):∀y∈[v],eE y=true:=by
 intro y hy;rw [List.mem_singleton] at hy;subst hy;exact h
theorem aaK {α:Type} {m:Mem} {b e z len:Nat} {enc:α→AV} {xs:List α} (hb:lk b m=some (some ⟨e,z,xs.map enc⟩)) (hlen:len=xs.length) (h:∀x,eE (enc x)=true):yc m b 0 len (xs.map enc):=by
 subst hlen;unfold yc;rw [hb];refine⟨by simp,?_,fH h xs⟩;have e:xs.length=(xs.map enc).length:=by simp
 rw [List.drop_zero,e,List.take_length]
theorem cV {α:Type} {m:Mem} {ρ:cC} {b e z len:Nat} {enc:α→AV} {xs:List α} (hb:lk b m=some (some ⟨e,z,xs.map enc⟩)) (hlen:len=xs.length) (h:∀x,eE (enc x)=true):bE m ρ (.arr b 0 len) (.sl (xs.map enc)):=by
 rw [bE];exact aaK hb hlen h
theorem cF {α:Type} {m:Mem} {ρ:cC} {enc:α→AV}:bE m ρ .bF (.sl (([]:List α).map enc)):=by
 rw [bE];rfl
theorem OE {α:Type} {enc:α→AV} (xs:List α):xs.map enc=((xs.map enc).drop 0).take xs.length:=by
 have e:xs.length=(xs.map enc).length:=by simp
 rw [List.drop_zero,e,List.take_length]
theorem OF {α:Type} {enc:α→AV} (xs:List α):(xs.map enc).take xs.length=xs.map enc:=by
 have:=OE (enc:=enc) xs;rw [List.drop_zero] at this;exact this.symm
theorem aD {α:Type} {ρ:cC} {enc:α→AV} (xs:List α) (h:∀x,eE (enc x)=true):Fc ρ (xs.map enc) (xs.map enc):=.inl ⟨rfl,fH h xs⟩
section
variable{P:Program} {tt:TT} {Q:Exit→St→Prop} {n:Nat} {t:List (Nat×AV)} {m:Mem}
theorem aaL {body:Code} {K KB:List Nat} {mt:List (Nat×AV)} {mm:Mem} {kt:List (Nat×AV)} {km:Mem} {ρ:cC} {s':St} (hn:s'.n=n) (hf:Fits K KB kt km ρ s' mt mm) (h:dO P lim body Q ⟨n,mt++kt,mm++km⟩):dO P lim body Q s':=by
 obtain⟨n',t',m'⟩:=s';subst hn;refine ZW (h:=⟨n',mt++kt,mm++km⟩) ⟨ρ,rfl,hf.FA,?_,?_⟩ h
 ·exact BB hf.t (vH hf.k hf.FB)
 ·exact BC hf.m (vI hf.kb hf.FC)
theorem bJ {X:Type} {x y:Code} (K KB:List Nat) (mt:X→List (Nat×AV)) (mm:X→Mem) (G:X→Prop) {kt:List (Nat×AV)} {km:Mem} (hk:sg t K=some kt) (hb:si m KB=some km)
  (hx:dO P lim x (iA (fun s'=>s'.n=n∧∃v ρ,Fits K KB kt km ρ s' (mt v) (mm v)∧G v) Q) ⟨n,t,m⟩) (hy:∀v,G v→dO P lim y Q ⟨n,mt v++kt,mm v++km⟩):dO P lim (.seq x y) Q ⟨n,t,m⟩:=by
 have _:=hk;have _:=hb;refine ay ?_;intro c eu a w hs;have:=hx c eu a w hs;refine Code.wp_mono ?_ this;rintro e a' w' ⟨s',cu,hq⟩;cases e with
 |normal=>
  obtain⟨hn,v,ρ,hf,hg⟩:=hq;exact⟨s',cu,aaL hn hf (hy v hg)⟩
 |_=>exact⟨s',cu,hq⟩
theorem bY {X Y:Type} {body:Code} (K KB:List Nat) (mt:X→List (Nat×AV)) (mm:X→Mem) (step:X→Option (X⊕Y)) (x0:X) (sa:cC) {kt:List (Nat×AV)} {km:Mem} {y:Y} (hy:bb step x0=some y)
  (h0:Fits K KB kt km sa ⟨n,t,m⟩ (mt x0) (mm x0))
  (hb:∀(x:X) (R:X→Prop) (z:X⊕Y),step x=some z→FJ y R z→dO P lim body (iA (fun s'=>s'.n=n∧∃x' ρ,Fits K KB kt km ρ s' (mt x') (mm x')∧R x') Q) ⟨n,mt x++kt,mm x++km⟩):dO P lim (.loop body) Q ⟨n,t,m⟩:=by
 obtain⟨N,hN⟩:=FI hy;refine aap (X:={p:Nat×X//kj step p.1 p.2=some y}) K KB (fun p=>mt p.1.2) (fun p=>mm p.1.2) (fun p=>p.1.1) ⟨(N,x0),hN⟩ sa h0 ?_;rintro⟨⟨k,x⟩,hp⟩;cases k with
 |zero=>cases hp
 |succ k=>
  have:∃z,step x=some z∧FJ y (fun x'=>kj step k x'=some y) z:=by
   simp only [kj] at hp;cases hs:step x with
   |none=>rw [hs] at hp;cases hp
   |some z=>
    rw [hs] at hp;cases z with
    |inl x'=>exact⟨_,rfl,hp⟩
    |inr y'=>cases hp;exact⟨_,rfl,rfl⟩
  obtain⟨z,hz,hc⟩:=this;have:=hb x (fun x'=>kj step k x'=some y) z hz hc;intro c eu a w hs;refine Code.wp_mono ?_ (this c eu a w hs);rintro e a' w' ⟨s',cu,hq⟩;refine⟨s',cu,?_⟩;cases e with
  |normal=>
   obtain⟨hn,x',ρ,hf,hr⟩:=hq;exact⟨hn,⟨(k,x'),hr⟩,ρ,hf,Nat.lt_succ_self _⟩
  |_=>exact hq
variable{ops:Array Oper} {draw:Bool} {Q:St→Prop} {acc:List (Option dN)} {l:List Oper}
theorem bn {α:Type} {o:Oper} {ty el:Nat} {t':List (Nat×AV)} {x y:Operand} {D E:ae} {k:IntKind} (enc:α→AV) (xs:List α) (i:Int) (e:α) (he:aC xs i=some e) (ht:ff P tt) (hg:dV ops ⟨n,t,m⟩ o=some true) (ho:o.op=.indexAddr ty x y) (hD:lk ty tt=some D) (hk:D.k=.slice el) (hE:lk el tt=some E)
  (hx:(⟨n,t,m⟩:St).ev x=.sl (xs.map enc)) (hy:(⟨n,t,m⟩:St).ev y=.sc (.int k i)) (hl:Nat.beq (enc e).cells.length E.size=true) (hp:fB n t o.dst (.vp (enc e).cells)=some t')
  (h:Go P ops draw Q l ⟨n,t',m⟩ (some ⟨.vp (enc e).cells,[],[],[]⟩::acc)):Go P ops draw Q (o::l) ⟨n,t,m⟩ acc:=by
 obtain⟨h0,h1⟩:=pz he;exact aaq ht h0 (ev:=enc e) (by rw [List.getElem?_map,h1];rfl) hg ho hD hk hE hx hy hl hp h
theorem ew {α:Type} {o:Oper} {ty el b bt bz len:Nat} {t':List (Nat×AV)} {x y:Operand} {D E:ae} {k:IntKind} (enc:α→AV) (xs:List α) (i:Int) (e:α) (he:aC xs i=some e) (hlen:len=xs.length) (ht:ff P tt) (hg:dV ops ⟨n,t,m⟩ o=some true) (ho:o.op=.indexAddr ty x y) (hD:lk ty tt=some D) (hk:D.k=.slice el) (hE:lk el tt=some E)
  (hx:(⟨n,t,m⟩:St).ev x=.arr b 0 len) (hy:(⟨n,t,m⟩:St).ev y=.sc (.int k i)) (hb:lk b m=some (some ⟨bt,bz,xs.map enc⟩)) (hz:Nat.beq bz E.size=true) (hp:fB n t o.dst (.ref b i.toNat 0)=some t')
  (h:Go P ops draw Q l ⟨n,t',m⟩ (some ⟨.ref b i.toNat 0,[],[b],[]⟩::acc)):Go P ops draw Q (o::l) ⟨n,t,m⟩ acc:=by
 obtain⟨h0,h1⟩:=pz he;have hi:i.toNat<xs.length:=(List.getElem?_eq_some_iff.1 h1).1;exact aaD (i:=i.toNat) ht (by omega) hg ho hD hk hE hx (by rw [hy,Int.toNat_of_nonneg h0]) hb hz hp h
theorem gO {α:Type} {o:Oper} {T b bt bz off:Nat} {t':List (Nat×AV)} {x:Operand} {D:ae} (enc:α→AV) (xs:List α) (i:Int) (e:α) (v:AV) (he:aC xs i=some e) (ht:ff P tt) (hg:dV ops ⟨n,t,m⟩ o=some true) (ho:o.op=.load T x) (hD:lk T tt=some D)
  (hx:(⟨n,t,m⟩:St).ev x=.ref b i.toNat off) (hb:lk b m=some (some ⟨bt,bz,xs.map enc⟩)) (hv:rd D (enc e).cells off=some v) (hp:fB n t o.dst v=some t')
  (h:Go P ops draw Q l ⟨n,t',m⟩ (some ⟨v,[],[b],[]⟩::acc)):Go P ops draw Q (o::l) ⟨n,t,m⟩ acc:=by
 obtain⟨h0,h1⟩:=pz he;exact eL hg (Np (P:=P) (o:=o) (s:=⟨n,t,m⟩) (e:=enc e) ho (ht _ _ hD) hx hb (by show(xs.map enc)[i.toNat]?=_;rw [List.getElem?_map,h1];rfl) hv) rfl hp rfl h
theorem jU {α:Type} {o:Oper} {T b bt bz off:Nat} {t':List (Nat×AV)} {m':Mem} {x y:Operand} {D:ae} {v:AV} (enc:α→AV) (xs:List α) (i:Int) (e e':α) (he:aC xs i=some e) (ht:ff P tt) (hg:dV ops ⟨n,t,m⟩ o=some true) (ho:o.op=.store T x y) (hD:lk T tt=some D)
  (hx:(⟨n,t,m⟩:St).ev x=.ref b i.toNat off) (hb:lk b m=some (some ⟨bt,bz,xs.map enc⟩)) (hy:force ((⟨n,t,m⟩:St).ev y)=some v) (hv:v.cells.all AV.k_=true) (e_:(match v with|.bot=>false|_=>true)=true) (hl:Nat.beq v.cells.length D.size=true) (hu:tm (enc e) off v.cells=some (enc e'))
  (hp:fB n t o.dst (.bR [])=some t') (hm:mc [(b,some ⟨bt,bz,(aU xs i e').map enc⟩)] m=some m')
  (h:Go P ops draw Q l ⟨n,t',m'⟩ (some ⟨.bR [],[(b,some ⟨bt,bz,(aU xs i e').map enc⟩)],[b],[]⟩::acc)):Go P ops draw Q (o::l) ⟨n,t,m⟩ acc:=by
 obtain⟨h0,h1⟩:=pz he
 have hA:cM P o ⟨n,t,m⟩ ⟨.bR [],[(b,some ⟨bt,bz,(aU xs i e').map enc⟩)],[b],[]⟩:=by
  have:=Nq (P:=P) (o:=o) (s:=⟨n,t,m⟩) (e:=enc e) ho (ht _ _ hD) hx hb (force_eq hy) (by intro h;subst h;simp at e_) hl hv (by show(xs.map enc)[i.toNat]?=_;rw [List.getElem?_map,h1];rfl) hu
  simpa [aU,List.map_set] using this
 exact eL hg hA rfl hp hm h
theorem dY {α:Type} {o:Oper} {ty e d b b2 e' z' e2 z2 len OG:Nat} {t':List (Nat×AV)} {m':Mem} {x y:Operand} {D E:ae} (enc:α→AV) (xs ys zs:List α) (oI:cK E.bytes xs ys=some zs) (oi:∀x,(enc x).cells.all AV.k_=true) (vL:len=xs.length) (nJ:OG=ys.length) (ht:ff P tt)
  (hg:dV ops ⟨n,t,m⟩ o=some true) (ho:o.op=l0 .append #[x,y] #[ty,ty]) (hD:lk ty tt=some D) (hk:D.k=.slice e) (hE:lk e tt=some E) (hz:Nat.blt 0 E.size=true)
  (hx:(⟨n,t,m⟩:St).ev x=.arr b 0 len) (hb:lk b m=some (some ⟨e',z',xs.map enc⟩)) (vk:Nat.beq e' e=true) (jj:Nat.beq z' E.size=true)
  (hy:(⟨n,t,m⟩:St).ev y=.arr b2 0 OG) (mH:lk b2 m=some (some ⟨e2,z2,ys.map enc⟩)) (hz2:Nat.beq z2 E.size=true)
  (hd:o.dst=some d) (hn:mJ ⟨n,t,m⟩ [d]=true) (hp:fB n t (some d) (.arr d 0 zs.length)=some t') (hm:mc [(d,some ⟨e,E.size,zs.map enc⟩),(b,none)] m=some m')
  (h:Go P ops draw Q l ⟨n,t',m'⟩ (some ⟨.arr d 0 zs.length,[(d,some ⟨e,E.size,zs.map enc⟩),(b,none)],[b,b2],[d]⟩::acc)):Go P ops draw Q (o::l) ⟨n,t,m⟩ acc:=by
 subst vL nJ;obtain⟨rfl,h1,h2⟩:=OC oI
 have hA:cM P o ⟨n,t,m⟩ ⟨.arr d 0 (xs++ys).length,[(d,some ⟨e,E.size,(xs++ys).map enc⟩),(b,none)],[b,b2],[d]⟩:=by
  have:=NR (P:=P) (o:=o) (s:=⟨n,t,m⟩) (d:=d) (ys:=ys.map enc) (acc:=[b2]) ho (ht _ _ hD) hk (ht _ _ hE) hz hx hb vk jj (by simp)
   (.inr (.inr ⟨b2,0,ys.length,_,hy,mH,Nat.eq_of_beq_eq_true hz2,by simp,OE ys,by simp⟩)) (by simpa using fun x _ c hc=>(List.all_eq_true.1 (oi x)) c hc) (by simpa using h1) (by simpa using h2)
  simpa [OF] using this
 exact eL hg hA hn (by rw [hd];exact hp) hm h
theorem vM {α:Type} {o:Oper} {ty e d b e' z' len:Nat} {t':List (Nat×AV)} {m':Mem} {x y:Operand} {D E:ae} (enc:α→AV) (xs ys zs:List α) (oI:cK E.bytes xs ys=some zs) (oi:∀x,(enc x).cells.all AV.k_=true) (jS:∀x,(enc x).cells.length=E.size) (vL:len=xs.length) (ht:ff P tt)
  (hg:dV ops ⟨n,t,m⟩ o=some true) (ho:o.op=l0 .append #[x,y] #[ty,ty]) (hD:lk ty tt=some D) (hk:D.k=.slice e) (hE:lk e tt=some E) (hz:Nat.blt 0 E.size=true)
  (hx:(⟨n,t,m⟩:St).ev x=.arr b 0 len) (hb:lk b m=some (some ⟨e',z',xs.map enc⟩)) (vk:Nat.beq e' e=true) (jj:Nat.beq z' E.size=true)
  (hy:(⟨n,t,m⟩:St).ev y=.sl (ys.map enc))
  (hd:o.dst=some d) (hn:mJ ⟨n,t,m⟩ [d]=true) (hp:fB n t (some d) (.arr d 0 zs.length)=some t') (hm:mc [(d,some ⟨e,E.size,zs.map enc⟩),(b,none)] m=some m')
  (h:Go P ops draw Q l ⟨n,t',m'⟩ (some ⟨.arr d 0 zs.length,[(d,some ⟨e,E.size,zs.map enc⟩),(b,none)],[b],[d]⟩::acc)):Go P ops draw Q (o::l) ⟨n,t,m⟩ acc:=by
 subst vL;obtain⟨rfl,h1,h2⟩:=OC oI
 have hA:cM P o ⟨n,t,m⟩ ⟨.arr d 0 (xs++ys).length,[(d,some ⟨e,E.size,(xs++ys).map enc⟩),(b,none)],[b],[d]⟩:=by
  have:=NR (P:=P) (o:=o) (s:=⟨n,t,m⟩) (d:=d) (ys:=ys.map enc) (acc:=[]) ho (ht _ _ hD) hk (ht _ _ hE) hz hx hb vk jj (by simp)
   (.inl ⟨hy,by simpa using fun x _=>jS x⟩) (by simpa using fun x _ c hc=>(List.all_eq_true.1 (oi x)) c hc) (by simpa using h1) (by simpa using h2)
  simpa [OF] using this
 exact eL hg hA hn (by rw [hd];exact hp) hm h
theorem tM {α:Type} {o:Oper} {ty e d:Nat} {t':List (Nat×AV)} {m':Mem} {x y:Operand} {D E:ae} {k:IntKind} (enc:α→AV) (z:α) (i:Int) (zs:List α) (oI:kn E.bytes z i=some zs) (ht:ff P tt) (hg:dV ops ⟨n,t,m⟩ o=some true) (ho:o.op=.makeSlice ty x y) (hD:lk ty tt=some D) (hk:D.k=.slice e) (hE:lk e tt=some E)
  (hx:(⟨n,t,m⟩:St).ev x=.sc (.int k i)) (hy:(⟨n,t,m⟩:St).ev y=.sc (.int k i)) (hz:Nat.blt 0 E.size=true) (jk:E.zero=enc z) (hd:o.dst=some d) (hn:mJ ⟨n,t,m⟩ [d]=true)
  (hp:fB n t (some d) (.arr d 0 zs.length)=some t') (hm:mc [(d,some ⟨e,E.size,zs.map enc⟩)] m=some m')
  (h:Go P ops draw Q l ⟨n,t',m'⟩ (some ⟨.arr d 0 zs.length,[(d,some ⟨e,E.size,zs.map enc⟩)],[],[d]⟩::acc)):Go P ops draw Q (o::l) ⟨n,t,m⟩ acc:=by
 obtain⟨rfl,h0,h1,h2⟩:=OD oI
 have hA:cM P o ⟨n,t,m⟩ ⟨.arr d 0 (List.replicate i.toNat z).length,[(d,some ⟨e,E.size,(List.replicate i.toNat z).map enc⟩)],[],[d]⟩:=by
  have:=NC (P:=P) (o:=o) (s:=⟨n,t,m⟩) (d:=d) ho (ht _ _ hD) hk (ht _ _ hE) hx hy hz h0 h1 h2;simpa [jk] using this
 exact eL hg hA hn (by rw [hd];exact hp) hm h
theorem FK {o:Oper} {ty:Nat} {t':List (Nat×AV)} {x y:Operand} {D:ae} {kd:IntKind} (s:ByteArray) (i v:Int) (hv:pA s i=some v) (ht:ff P tt) (hg:dV ops ⟨n,t,m⟩ o=some true) (ho:o.op=.index ty x y) (hD:lk ty tt=some D) (hk:D.k=.str)
  (hx:(⟨n,t,m⟩:St).ev x=.sc (.string s)) (hy:(⟨n,t,m⟩:St).ev y=.sc (.int kd i)) (hp:fB n t o.dst (.sc (.int .u8 v))=some t')
  (h:Go P ops draw Q l ⟨n,t',m⟩ (some ⟨.sc (.int .u8 v),[],[],[]⟩::acc)):Go P ops draw Q (o::l) ⟨n,t,m⟩ acc:=by
 obtain⟨j,rfl,h1,rfl⟩:=aaJ hv;exact aaF ht h1 hg ho hD hk hx hy hp h
theorem BN {α:Type} {o:Oper} {ty k e:Nat} {t':List (Nat×AV)} {x y:Operand} {D E:ae} {kd:IntKind} {cs:List AV} (enc:α→AV) (xs:List α) (i:Int) (el:α) (he:aC xs i=some el) (OH:xs.length=k) (hrd:∀j:Nat,∀el:α,xs[j]?=some el→rd E cs (j*E.size)=some (enc el)) (ht:ff P tt) (hg:dV ops ⟨n,t,m⟩ o=some true) (ho:o.op=.index ty x y) (hD:lk ty tt=some D) (hk:D.k=.array k e) (hE:lk e tt=some E)
  (hx:(⟨n,t,m⟩:St).ev x=.agg cs) (hy:(⟨n,t,m⟩:St).ev y=.sc (.int kd i)) (hp:fB n t o.dst (enc el)=some t')
  (h:Go P ops draw Q l ⟨n,t',m⟩ (some ⟨enc el,[],[],[]⟩::acc)):Go P ops draw Q (o::l) ⟨n,t,m⟩ acc:=by
 obtain⟨h0,h1⟩:=pz he;have hi:i.toNat<xs.length:=(List.getElem?_eq_some_iff.1 h1).1;exact aaE (i:=i.toNat) ht (by omega) (hrd _ _ h1) hg ho hD hk hE hx (by rw [hy,Int.toNat_of_nonneg h0]) hp h
theorem bg {α:Type} {o:Oper} {ty e:Nat} {t':List (Nat×AV)} {x:Operand} {D:ae} (enc:α→AV) (xs:List α) (ht:ff P tt) (hg:dV ops ⟨n,t,m⟩ o=some true) (ho:o.op=l0 .len #[x] #[ty]) (hD:lk ty tt=some D) (hk:D.k=.slice e)
  (hx:(⟨n,t,m⟩:St).ev x=.sl (xs.map enc)) (hp:fB n t o.dst (.sc (.int .i64 ((xs.length:Nat):Int)))=some t')
  (h:Go P ops draw Q l ⟨n,t',m⟩ (some ⟨.sc (.int .i64 ((xs.length:Nat):Int)),[],[],[]⟩::acc)):Go P ops draw Q (o::l) ⟨n,t,m⟩ acc:=by
 have hA:cM P o ⟨n,t,m⟩ ⟨.sc (.int .i64 ((xs.length:Nat):Int)),[],[],[]⟩:=by
  refine Oi (tt:=tt) (l:=[.sl (xs.map enc)]) ht ho (by simp [hx]) ?_;simp [Fw,hD,hk,Bf,val]
 exact eL hg hA rfl hp rfl h
theorem aaO {o:Oper} {ty tN:Nat} {t':List (Nat×AV)} {x y:Operand} (a b:ByteArray) (hg:dV ops ⟨n,t,m⟩ o=some true) (ho:o.op=.binOp .eql ty x y tN)
  (hx:(⟨n,t,m⟩:St).ev x=.sc (.string a)) (hy:(⟨n,t,m⟩:St).ev y=.sc (.string b)) (hp:fB n t o.dst (.sc (.bool (kl a b)))=some t')
  (h:Go P ops draw Q l ⟨n,t',m⟩ (some ⟨.sc (.bool (kl a b)),[],[],[]⟩::acc)):Go P ops draw Q (o::l) ⟨n,t,m⟩ acc:=
 eL hg (NB ho hx hy (by simp only [Be,aaG])) rfl hp rfl h
theorem FL {o:Oper} {ty tN:Nat} {t':List (Nat×AV)} {x y:Operand} {k:IntKind} (a b:Int) (hb:(b !=0)=true) (hg:dV ops ⟨n,t,m⟩ o=some true) (ho:o.op=.binOp .quo ty x y tN)
  (hx:(⟨n,t,m⟩:St).ev x=.sc (.int k a)) (hy:(⟨n,t,m⟩:St).ev y=.sc (.int k b)) (hp:fB n t o.dst (.sc (.int k (k.wrap (a.tdiv b))))=some t')
  (h:Go P ops draw Q l ⟨n,t',m⟩ (some ⟨.sc (.int k (k.wrap (a.tdiv b))),[],[],[]⟩::acc)):Go P ops draw Q (o::l) ⟨n,t,m⟩ acc:=
 eL hg (Nz ho hx hy (by simpa using hb)) rfl hp rfl h
theorem sq {o:Oper} {ty tN:Nat} {t':List (Nat×AV)} {x y:Operand} {k:IntKind} (a b:Int) (hb:(b !=0)=true) (hg:dV ops ⟨n,t,m⟩ o=some true) (ho:o.op=.binOp .rem ty x y tN)
  (hx:(⟨n,t,m⟩:St).ev x=.sc (.int k a)) (hy:(⟨n,t,m⟩:St).ev y=.sc (.int k b)) (hp:fB n t o.dst (.sc (.int k (a.tmod b)))=some t')
  (h:Go P ops draw Q l ⟨n,t',m⟩ (some ⟨.sc (.int k (a.tmod b)),[],[],[]⟩::acc)):Go P ops draw Q (o::l) ⟨n,t,m⟩ acc:=
 eL hg (NA ho hx hy (by simpa using hb)) rfl hp rfl h
end
end Go.Ab
namespace Go.Ab
open Go.RowKit
theorem yC {v:AV} (h:hZ v=true):∀y∈[v],hZ y=true:=by
 intro y hy;rw [List.mem_singleton] at hy;subst hy;exact h
theorem BO {α:Type} {enc:α→AV} (h:∀x,hZ (enc x)=true) (xs:List α):∀y∈xs.map enc,hZ y=true:=by
 intro y hy;obtain⟨x,_,rfl⟩:=List.mem_map.1 hy;exact h x
section
variable{P:Program} {tt:TT} {ops:Array Oper} {draw:Bool} {Q:St→Prop} {acc:List (Option dN)} {l:List Oper}
theorem iE {o:Oper} {n f:Nat} {t t':List (Nat×AV)} {m m':Mem} {fo:Operand} {xs:Array Operand} {ga:Array TypeId} {fs cs tO gr args:List AV} {M M':Mem} {r:AV} (v:AV) (L W:Mem) (ρ σ:cC) (hf:bf P f) (H:Holds P f args M r M') (hg:dV ops ⟨n,t,m⟩ o=some true) (ho:o.op=pw fo xs ga)
  (mI:(⟨n,t,m⟩:St).ev fo=.cE f fs cs) (BP:oF ⟨n,t,m⟩ xs.toList=some tO) (px:fs++tO++cs=gr) (hL:mF ρ m L) (fq:gb L ρ gr args) (hi:iC ρ=true) (hk:(ρ.all fun p=>(lk p.1 M).isSome)=true) (hM:et ρ m M)
  (nG:iC σ=true) (p7:(σ.all fun p=>(lk p.1 W).isSome)=true) (hW:et σ M' W) (hv:bE [] σ r v) (oB:vB ρ M σ W=true) (mG:L≠[]→hZ v=true∧rb W) (ji:mJ ⟨n,t,m⟩ (kG ρ W)=true)
  (hp:fB n t o.dst v=some t') (hm:mc (W++lF (dQ ρ)) m=some m')
  (h:Go P ops draw Q l ⟨n,t',m'⟩ (some ⟨v,W++lF (dQ ρ),dQ ρ++L.map (·.1),kG ρ W⟩::acc)):Go P ops draw Q (o::l) ⟨n,t,m⟩ acc:=by
 obtain⟨fn,h1,h2,h3⟩:=hf;exact eL hg (Fq (M:=M) (M':=M') (L:=L) (W:=W) (ρ:=ρ) (σ:=σ) ho h1 h2 h3 mI (by rw [tJ _ _ _ BP];exact px) H hL fq hi hk hM nG p7 hW hv oB mG) ji hp hm h
theorem JD {o:Oper} {n f:Nat} {t t':List (Nat×AV)} {m:Mem} {fo:Operand} {xs:Array Operand} {ga:Array TypeId} {fs cs tO gr args:List AV} {L:Mem} {r v:AV} (hf:bf P f) (H:Holds P f args [] r []) (hg:dV ops ⟨n,t,m⟩ o=some true) (ho:o.op=pw fo xs ga)
  (mI:(⟨n,t,m⟩:St).ev fo=.cE f fs cs) (BP:oF ⟨n,t,m⟩ xs.toList=some tO) (px:fs++tO++cs=gr) (hL:mF [] m L) (fq:gb L [] gr args) (hv:force r=some v) (hr:eE v=true) (mG:L≠[]→hZ v=true) (hp:fB n t o.dst v=some t')
  (h:Go P ops draw Q l ⟨n,t',m⟩ (some ⟨v,[],L.map (·.1),[]⟩::acc)):Go P ops draw Q (o::l) ⟨n,t,m⟩ acc:=by
 obtain⟨fn,h1,h2,h3⟩:=hf;have Jj:=force_eq hv;subst Jj;exact eL hg (Fq (M:=[]) (M':=[]) (L:=L) (W:=[]) (ρ:=[]) (σ:=[]) ho h1 h2 h3 mI (by rw [tJ _ _ _ BP];exact px) H hL fq rfl rfl trivial rfl rfl trivial (aB r hr) rfl (fun ep=>⟨mG ep,trivial⟩)) rfl hp rfl h
variable{o:Oper} {s:St}
end
def qa {α:Type} (xs:List α) (lo hi:Int):Option (List α):=bif decide (0≤lo)&&(decide (lo≤hi)&&decide (hi≤(xs.length:Int))) then some ((xs.drop lo.toNat).take (hi.toNat -lo.toNat)) else none
theorem OI {α:Type} {xs ys:List α} {lo hi:Int} (h:qa xs lo hi=some ys):0≤lo∧lo≤hi∧hi≤xs.length∧ys=(xs.drop lo.toNat).take (hi.toNat -lo.toNat):=by
 unfold qa at h;obtain⟨h1,h2⟩:=gw h;simp only [Bool.and_eq_true,decide_eq_true_eq] at h1;exact⟨h1.1,h1.2.1,h1.2.2,(ar h2).symm⟩
theorem OJ {α:Type} {xs:List α} {lo hi:Int} (h0:0≤lo) (h1:lo≤hi) (h2:hi≤xs.length):qa xs lo hi=some ((xs.drop lo.toNat).take (hi.toNat -lo.toNat)):=by
 unfold qa;rw [decide_eq_true h0,decide_eq_true h1,decide_eq_true h2];rfl
section
variable{P:Program} {tt:TT} {o:Oper} {s:St}
def tP (s:St) (x:Option Operand) (d v:Int):Prop:=match x with
 |none=>v=d
 |some x=>∃k,s.ev x=.sc (.int k v)
theorem BQ {c:Ctx} {φ:Ph} {R:Nat→Prop} {s s':St} {a:Act} {w:World} (hs:cz c φ R s' a w) {x:Operand} {k:IntKind} {v:Int} (hx:s.ev x=.sc (.int k v)) (bS:s'.ev x=s.ev x):a.eval x=.int k v:=by
 have h1:=hs.ev x;rw [bS,hx] at h1;exact h1.gI
theorem OK (w:World) (k:IntKind) (i:Int) (y:Nat) (cd:BoundsCode) (h0:0≤i) (h1:i≤y):(Instr.sliceBound (.int k i) y cd).run P w=.ok i.toNat w:=by
 simp [Instr.sliceBound,asIntOf,h0,h1]
theorem JE (w:World) (b:Bool) (len cap:Nat) (lo hi:Option Value) (l h:Int) (ko:match lo with|none=>l=0|some v=>∃k,v=.int k l) (jV:match hi with|none=>h=len|some v=>∃k,v=.int k h)
  (h0:0≤l) (h1:l≤h) (h2:h≤len) (h3:len≤cap):(Instr.sliceBounds b len cap lo hi none).run P w=.ok (l.toNat,h.toNat,cap) w:=by
 have e1:∀cd,(match hi with|some v=>Instr.sliceBound v cap cd|none=>pure len:Sem Nat).run P w=.ok h.toNat w:=by
  intro cd;cases hi with
  |none=>simp at jV;subst jV;simp
  |some v=>obtain⟨k,rfl⟩:=jV;exact OK w k h cap cd (by omega) (by omega)
 have e2:∀cd,(match lo with|some v=>Instr.sliceBound v h.toNat cd|none=>pure 0:Sem Nat).run P w=.ok l.toNat w:=by
  intro cd;cases lo with
  |none=>simp at ko;subst ko;simp
  |some v=>obtain⟨k,rfl⟩:=ko;exact OK w k l h.toNat cd h0 (by omega)
 unfold Instr.sliceBounds;cases hi with
 |none=>
  cases lo with
  |none=>simp at ko jV;subst ko;subst jV;simp
  |some v=>
   have:=e2 .sliceB;simp at jV;subst jV;simp only [Int.toNat_natCast] at this;simp [this]
 |some u=>
  have k1:=e1 (if b then .sliceAcap else .sliceAlen)
  cases lo with
  |none=>simp at ko;subst ko;simp [k1]
  |some v=>
   have:=e2 .sliceB;simp [k1,this]
theorem aaP {t e:Nat} {x:Operand} {lo hi:Option Operand} {D E:ae} {xs ys:List AV} {l h:Int} (ho:o.op=.slice t x lo hi none) (hD:az P t=some D) (hk:D.k=.slice e) (hE:az P e=some E) (jS:∀x∈xs,x.cells.length=E.size) (hx:s.ev x=.sl xs) (ko:tP s lo 0 l) (jV:tP s hi xs.length h) (hu:qa xs l h=some ys):
  cM P o s ⟨.sl ys,[],[],[]⟩:=by
 have ot:=pg hD hk;obtain⟨h0,h1,h2,rfl⟩:=OI hu;intro s' _ bS _ _;refine f_ fun c φ R a w hs=>?_
 have e0:=hs.ev x;rw [bS x (by simp [ho,Op.operands]),hx] at e0;generalize hq:a.eval x=q at e0
 have hb:∀len cap:Nat,len=xs.length→len≤cap→(Instr.sliceBounds true len cap (lo.map a.eval) (hi.map a.eval) none).run P w=.ok (l.toNat,h.toNat,cap) w:=fun len cap hl hc=>JE (P:=P) w true len cap (lo.map a.eval) (hi.map a.eval) l h (by
  cases lo with
  |none=>exact ko
  |some y=>
   obtain⟨k,hk⟩:=ko;exact⟨k,BQ hs hk (bS y (by simp [ho,Op.operands]))⟩) (by
  subst hl;cases hi with
  |none=>exact jV
  |some y=>
   obtain⟨k,hk⟩:=jV;exact⟨k,BQ hs hk (bS y (by cases lo<;>simp [ho,Op.operands]))⟩) h0 h1 (by rw [hl];exact h2) hc
 cases e0 with
 |@jG _ ad cap=>
  have z1:l=0:=by simp at h2;omega
  have z2:h=0:=by simp at h2;omega
  subst z1 z2;refine⟨.slice (if cap=0 then ad else ad.map (·.add (0*E.size))) 0 cap,?_,by simp;exact .jG⟩
  simp [execOp,ho,hq,Instr.sliceAt,Instr.slice,run_underlying ot w,hb 0 cap rfl (Nat.zero_le _),run_sizeOf hE w]
 |@sl _ _ b off cap ez f he hR lZ hl hc hr=>
  refine⟨.slice (if cap=l.toNat then some ⟨b,off,none⟩ else some (⟨b,off+l.toNat*E.size,none⟩)) (h.toNat -l.toNat) (cap -l.toNat),?_,?_⟩
  ·simp only [execOp,ho,hq,Instr.sliceAt,Instr.slice];simp [run_underlying ot w,hb _ cap rfl lZ,run_sizeOf hE w,q7]
  ·by_cases hz:h.toNat=l.toNat
   ·rw [hz];simp;exact .jG
   ·have bB:l.toNat<h.toNat:=by omega
    have ep:cap≠l.toNat:=by omega
    rw [if_neg ep];have OH:xs≠[]:=by intro hh;subst hh;simp at h2;omega
    have jj:ez=E.size:=by
     cases xs with
     |nil=>exact absurd rfl OH
     |cons y ys=>rw [←hl 0 y rfl,jS y (by simp)]
    subst jj;have hlen:((xs.drop l.toNat).take (h.toNat -l.toNat)).length=h.toNat -l.toNat:=by simp;omega
    have:=Rel.sl (w:=w) (R:=R) (φ:=φ) (xs:=(xs.drop l.toNat).take (h.toNat -l.toNat)) (b:=b) (o:=off+l.toNat*E.size) (cap:=cap -l.toNat) (e:=E.size) (fun k=>f (l.toNat*E.size+k)) he hR (by rw [hlen];omega) (by
     intro i y hy;rw [List.getElem?_take] at hy;split at hy
     ·rw [List.getElem?_drop] at hy;exact hl _ y hy
     ·cases hy) (by
     intro k hk;rw [hlen] at hk
     have:l.toNat*E.size+k<xs.length*E.size:=by
      have h3:h.toNat≤xs.length:=by omega
      calc l.toNat*E.size+k<l.toNat*E.size+(h.toNat -l.toNat)*E.size:=by omega
       _=h.toNat*E.size:=by rw [←Nat.add_mul];congr 1;omega
       _≤xs.length*E.size:=Nat.mul_le_mul_right _ h3
     rw [Nat.add_assoc];exact hc _ this) (by
     intro i y j cc hy hj;rw [List.getElem?_take] at hy;split at hy
     ·rw [List.getElem?_drop] at hy;have:=hr _ y j cc hy hj;rw [Nat.add_mul,Nat.add_assoc] at this;exact this
     ·cases hy)
    rw [hlen] at this;exact this
end
section
variable{P:Program} {tt:TT} {n:Nat} {t:List (Nat×AV)} {m:Mem} {ops:Array Oper} {draw:Bool} {Q:St→Prop} {acc:List (Option dN)} {l:List Oper}
theorem OL {α:Type} {o:Oper} {ty e:Nat} {t':List (Nat×AV)} {x:Operand} {lo hi:Option Operand} {D E:ae} (enc:α→AV) (xs ys:List α) (a b:Int) (hu:qa xs a b=some ys) (jS:∀x,(enc x).cells.length=E.size) (ht:ff P tt) (hg:dV ops ⟨n,t,m⟩ o=some true) (ho:o.op=.slice ty x lo hi none) (hD:lk ty tt=some D) (hk:D.k=.slice e) (hE:lk e tt=some E)
  (hx:(⟨n,t,m⟩:St).ev x=.sl (xs.map enc)) (ko:tP ⟨n,t,m⟩ lo 0 a) (jV:tP ⟨n,t,m⟩ hi xs.length b) (hp:fB n t o.dst (.sl (ys.map enc))=some t')
  (h:Go P ops draw Q l ⟨n,t',m⟩ (some ⟨.sl (ys.map enc),[],[],[]⟩::acc)):Go P ops draw Q (o::l) ⟨n,t,m⟩ acc:=by
 obtain⟨h0,h1,h2,rfl⟩:=OI hu;refine eL hg (aaP (P:=P) (s:=⟨n,t,m⟩) (l:=a) (h:=b) ho (ht _ _ hD) hk (ht _ _ hE) (by simpa using fun x _=>jS x) hx ko (by rw [List.length_map];exact jV) ?_) rfl hp rfl h;rw [OJ h0 h1 (by simpa using h2)];simp [List.map_take,List.map_drop]
end
section
variable{P:Program} {o:Oper} {s:St}
theorem cz.FM {c:Ctx} {φ:Ph} {R:Nat→Prop} {s:St} {a:Act} {w w':World} (h:cz c φ R s a w) {b:Nat} {k:eI} {x:Home} (hb:lk b s.m=some (some k)) (hx:φ b=some (some x))
  (hos:w'.os=w.os) (aaR:w'.tape=w.tape) (aaS:w'.output=w.output) (vo:w.drawn≤w'.drawn) (dj:w'.heap.size=w.heap.size) (ij:∀n,n≠x.cA→w'.heap[n]?=w.heap[n]?):cz c φ R {s with m:=(b,none)::s.m} a w':=by
 have lC:=h.m.fA b k x hb hx;have hw:∀n,R n→w'.heap[n]?=w.heap[n]?:=fun n hn=>ij n (fun e=>lC (e▸hn))
 have f:∀b1 k1,lk b1 ((b,none)::s.m)=some (some k1)→b1≠b∧lk b1 s.m=some (some k1):=by
  intro b1 k1 h1;rw [dP] at h1;split at h1
  ·cases h1
  ·rename_i ep;exact⟨ep,h1⟩
 refine⟨h.n,fun t av ht=>(h.t t av ht).mono hw (fun _ h=>h) (fun _ _ h=>h),⟨?_,fun b1 b2 k1 k2 y1 y2 h1 h2=>h.m.inj b1 b2 k1 k2 y1 y2 (f _ _ h1).2 (f _ _ h2).2,fun b1 k1 y h1=>h.m.fA b1 k1 y (f _ _ h1).2,h.m.gl.mono hw (fun _ h=>h)⟩,?_,fun b1 k1 y h1=>h.fresh b1 k1 y (f _ _ h1).2,h.R0,h.Rn,fun n hn=>by rw [dj];exact h.Rb n hn,?_,h.d,h.eK⟩
 ·intro b1 k1 h1;obtain⟨ep,h1⟩:=f b1 k1 h1;obtain⟨oh,ho,hr⟩:=h.m.rel b1 k1 h1;refine⟨oh,ho,hr.mono hw (fun y hy=>ij _ (fun e=>ep ?_)) (fun _ _ h=>h)⟩;subst hy;exact h.m.inj b1 b k1 k y x h1 hb ho hx e
 ·intro b1 y hy;obtain⟨z,hz⟩:=h.fZ b1 y hy;rw [dP];split
  ·exact⟨_,rfl⟩
  ·exact⟨z,hz⟩
 ·refine h.ext.trans (G':=fun i=>i=x.cA) ⟨hos,aaR,aaS,vo,by omega,fun i _ hi=>ij i hi⟩ (fun i hi e=>?_);rcases h.fresh b k x hb hx with hf|hf
  ·omega
  ·rw [e];exact hf
end
section
variable{P:Program} {tt:TT} {n:Nat} {t:List (Nat×AV)} {m:Mem} {ops:Array Oper} {draw:Bool} {Q:St→Prop} {acc:List (Option dN)} {l:List Oper}
end
section
variable{P:Program} {o:Oper} {s:St}
theorem aaT (w:World) {t e:Nat} {k:IntKind} {E:ae} (hu:P.underlying t=some (.array 2 e)) (hE:az P e=some E) (hk:E.k=.int k) (hz:E.size=1) (a b c d:Int) (q:Nat):
  (Op.equalIn (q+2) t (.agg #[.int k a,.int k b]) (.agg #[.int k c,.int k d])).run P w=.ok (a==c&&(b==d&&true)) w:=by
 have JF:=Io hE hk;obtain⟨i,z,u,hi,_,_,dj,_,_,_,_⟩:=la hE
 have hce:P.cellsOf e=1:=by
  have:P.cellsOf e=i.size:=by simp [Program.cellsOf,hi]
  rw [this,dj,hz]
 rw [run_equalIn_array w (q+1) _ _ hu hi,hce]
 have p:∀(xs:Array Value) (j:Nat) (v:Value),xs[j]?=some v→(part e xs (j*1)).run P w=.ok v w:=by
  intro xs j v hv;simp [part,isAgg,run_underlying JF,hv]
 have hr:List.range 2=[0,1]:=rfl;rw [hr];have p0:=p #[.int k a,.int k b] 0 (.int k a) rfl;have p1:=p #[.int k a,.int k b] 1 (.int k b) rfl;have q0:=p #[.int k c,.int k d] 0 (.int k c) rfl;have q1:=p #[.int k c,.int k d] 1 (.int k d) rfl;have e0:=run_equalIn_int w q e k _ a c JF;have e1:=run_equalIn_int w q e k _ b d JF;simp only [Op.eqItems,Sem.run_bind,p0,q0,p1,q1,Result.andThen_ok,e0,e1];rw [Nat.mul_one] at p1 q1;cases h1:(a==c)<;>cases h2:(b==d)<;>simp [p1,q1,e1,h2]
theorem OM {t ty e:Nat} {x y:Operand} {k:IntKind} {E:ae} {a b c d:Int} (hu:P.underlying t=some (.array 2 e)) (hE:az P e=some E) (hk:E.k=.int k) (hz:E.size=1) (hm:P.eqGuardType P.depth t=false) (ho:o.op=.binOp .neq t x y ty)
  (hx:s.ev x=.agg [.sc (.int k a),.sc (.int k b)]) (hy:s.ev y=.agg [.sc (.int k c),.sc (.int k d)]):cM P o s ⟨.sc (.bool (!(a==c&&(b==d&&true)))),[],[],[]⟩:=by
 intro s' _ bS _ _;refine f_ fun cc φ R ac w hs=>⟨.bool (!(a==c&&(b==d&&true))),?_,.sc rfl⟩
 have g1:=hs.ev x;rw [bS x (by simp [ho,Op.operands]),hx] at g1;have g1:=Rel.yA (c:=[.int k a,.int k b]) g1;have g2:=hs.ev y;rw [bS y (by simp [ho,Op.operands]),hy] at g2;have g2:=Rel.yA (c:=[.int k c,.int k d]) g2;have fG:=aaT (P:=P) w hu hE hk hz a b c d 9998;simp [execOp,ho,g1,g2,run_eqGuard_agg w .neq t x y _ _ hm,binOp,Op.equal,Op.maxDepth,fG]
end
end Go.Ab
namespace Go.Ab
open Go.RowKit Go.MapKept
section
variable{P:Program} {o:Oper} {s:St}
variable{lim:Nat}
theorem FN {ops:Array Oper} {Q:Exit→Act→World→Prop} {c:Ctx} {K:St→Prop} {js:List Nat} (hK:∀s a w,K s→dh c s a w→wpOps P ops Q js a w):∀(l:List Item) (s:St) (a:Act) (w:World),(∀x∈l,ops[x.i]?=some x.o)→gN P ops K l s→dh c s a w→wpOps P ops Q (l.map (·.i)++js) a w
 |[],s,a,w,_,h,hs=>hK s a w h hs
 |x::l,s,a,w,hi,h,hs=>by
  rw [List.map_cons,List.cons_append,wpOps_cons];exact IE (hi x (by simp)) h.1 hs (fun a' w' cu=>FN hK l _ a' w' (fun y hy=>hi y (by simp [hy])) h.2 cu)
theorem aaV {ops:Array Oper} {Q:Exit→Act→World→Prop} {c:Ctx} {K:Act→World→Prop} {i:Nat} {a:Act} {w:World} (hi:ops[i]?=some o) (hg:o.guard=none) (hs:dh c s a w) (h:o.wp P a w K Q):wpOp P ops Q i K a w:=by
 obtain⟨φ,R,cR⟩:=hs;have hgc:dV ops s o=some true:=by simp [dV,hg]
 unfold wpOp;simp only [hi];rw [E8 cR hgc];simp only [if_true];exact .inl h
end
end Go.Ab
namespace Go.Ab
open Go.RowKit
section
variable{P:Program} {o:Oper} {s:St}
theorem aaX {v:AV} {wr:Mem} {acc nw:List Nat} (h:cM P o s ⟨v,wr,acc,nw⟩) (ji:nw=[]) (hw:∀b x,lk b wr=some x→b∈acc∧lk b s.m=some x):cM P o s ⟨v,[],acc,[]⟩:=by
 subst ji;intro s' hn bS fE _;have h1:=h s' hn bS fE (by simp);intro c a w next Q hs tI
 refine h1 c a w next Q hs fun a' w' cu=>tI a' w' ?_
 obtain⟨φ,R,q⟩:=cu;have hS:je (s'.app o.dst ⟨v,wr,acc,[]⟩) (s'.app o.dst ⟨v,[],acc,[]⟩):=⟨rfl,fun _=>rfl,fun b=>?_⟩
 ·exact⟨φ,R,hS.Iz q⟩
 show lk b (wr++s'.m)=lk b ([]++s'.m)
 rw [qZ,List.nil_append];cases hq:lk b wr with
 |none=>rfl
 |some x=>
  obtain⟨g1,g2⟩:=hw b x hq;rw [fE b g1,g2];rfl
def JG (m:Mem):Mem→Prop
 |[]=>True
 |(b,x)::l=>lk b m=some x∧JG m l
theorem ON {m:Mem}:∀{W:Mem},JG m W→∀b x,lk b W=some x→lk b m=some x
 |[],_,b,x,h=>by simp [lk] at h
 |(b',x')::l,hW,b,x,h=>by
  rw [dP] at h;split at h
  ·subst_vars;cases h;exact hW.1
  ·exact ON hW.2 b x h
theorem OO {ρ:cC}:∀{W:Mem},(W.all fun p=>(dQ ρ).contains p.1)=true→kG ρ W=[]
 |[],_=>rfl
 |(t,x)::l,h=>by
  rw [List.all_cons,Bool.and_eq_true] at h;simp only [kG,h.1];exact OO h.2
variable{tt:TT} {ops:Array Oper} {draw:Bool} {Q:St→Prop} {acc:List (Option dN)} {l:List Oper}
theorem yD {o:Oper} {n f:Nat} {t t':List (Nat×AV)} {m:Mem} {fo:Operand} {xs:Array Operand} {ga:Array TypeId} {fs cs tO gr args:List AV} {M M':Mem} {r:AV} (v:AV) (L W:Mem) (ρ σ:cC) (hf:bf P f) (H:Holds P f args M r M') (hg:dV ops ⟨n,t,m⟩ o=some true) (ho:o.op=pw fo xs ga)
  (mI:(⟨n,t,m⟩:St).ev fo=.cE f fs cs) (BP:oF ⟨n,t,m⟩ xs.toList=some tO) (px:fs++tO++cs=gr) (hL:mF ρ m L) (fq:gb L ρ gr args) (hi:iC ρ=true) (hk:(ρ.all fun p=>(lk p.1 M).isSome)=true) (hM:et ρ m M)
  (nG:iC σ=true) (p7:(σ.all fun p=>(lk p.1 W).isSome)=true) (hW:et σ M' W) (hv:bE [] σ r v) (oB:vB ρ M σ W=true) (mG:L≠[]→hZ v=true∧rb W) (FO:JG m W) (lh:((dQ ρ).all fun b=>(lk b W).isSome)=true) (E7:(W.all fun p=>(dQ ρ).contains p.1)=true)
  (hp:fB n t o.dst v=some t') (h:Go P ops draw Q l ⟨n,t',m⟩ (some ⟨v,[],dQ ρ++L.map (·.1),[]⟩::acc)):Go P ops draw Q (o::l) ⟨n,t,m⟩ acc:=by
 obtain⟨fn,h1,h2,h3⟩:=hf;have hA:=Fq (M:=M) (M':=M') (L:=L) (W:=W) (ρ:=ρ) (σ:=σ) (s:=⟨n,t,m⟩) ho h1 h2 h3 mI (by rw [tJ _ _ _ BP];exact px) H hL fq hi hk hM nG p7 hW hv oB mG;refine eL hg (aaX hA (OO E7) fun b x hb=>?_) rfl hp rfl h;rw [qZ] at hb;cases hq:lk b W with
 |some y=>
  rw [hq] at hb;cases hb;have fP:=List.all_eq_true.1 E7 _ (fR hq);exact⟨by simp at fP;simp [fP],ON FO b x hq⟩
 |none=>
  rw [hq] at hb;have gH:lk b (lF (dQ ρ))=some x:=hb;rw [N0] at gH;split at gH
  ·rename_i aaY;have:=List.all_eq_true.1 lh b aaY;rw [hq] at this;cases this
  ·cases gH
variable{lim:Nat}
theorem OP {id:Nat} {Q:Exit→St→Prop} {l1 l2:List Oper} (k:Nat) (vL:ops.toList.take k=l1) (nJ:ops.toList.drop k=l2)
  (h:Go P ops false (fun s1=>∃s2,BK s1 s2∧Go P ops false (Q .normal) l2 s2 []) l1 s []):dO P lim (.region id ops false) Q s:=by
 intro c eu a w hs;have BR:ops.toList=l1++l2:=by rw [←vL,←nJ,List.take_append_drop]
 have dj:ops.size=l1.length+l2.length:=by rw [←Array.length_toList,BR];simp
 have mD:∀i,ops[i]?=(l1++l2)[i]?:=fun i=>by rw [←BR,Array.getElem?_toList]
 obtain⟨rr,h1,_,h3⟩:=h;obtain⟨i1,i2⟩:=vn l1 rr 0 h1.symm;refine wp_region ?_
 have:=FN (P:=P) (js:=(List.range l2.length).map (l1.length+·)) (Q:=fun e a' w'=>∃s',dh c s' a' w'∧Q e s') (ops:=ops) (c:=c) (fun s1 a1 w1 hq dc=>?_) (items 0 l1 rr) s a w (fun x hx=>by
  obtain⟨g1,g2⟩:=i2 x hx;rw [Nat.sub_zero] at g2;rw [mD,List.getElem?_append_left (List.getElem?_eq_some_iff.1 g2).1];exact g2) (h3 0) hs
 ·rw [i1] at this;rw [dj,List.range_add];simpa using this
 ·obtain⟨s2,hw,OQ,k1,_,k3⟩:=hq;obtain⟨j1,j2⟩:=vn l2 OQ l1.length k1.symm
  have:=FN (P:=P) (js:=[]) (Q:=fun e a' w'=>∃s',dh c s' a' w'∧Q e s') (K:=Q .normal) (ops:=ops) (c:=c) (fun s a w hq hs=>⟨s,hs,hq⟩) (items l1.length l2 OQ) s2 a1 w1 (fun x hx=>by
   obtain⟨g1,g2⟩:=j2 x hx;rw [mD,List.getElem?_append_right g1];exact g2) (k3 l1.length) (dc.freeze hw)
  rw [j1,List.append_nil] at this;exact this
theorem OR {G:St→Prop} {n:Nat} {t:List (Nat×AV)} {m:Mem} (K KB:List Nat) (L:Mem) (ρ:cC) (mt:List (Nat×AV)) (mm:Mem) {kt:List (Nat×AV)} {km:Mem} (hk:sg t K=some kt) (Jw:si m KB=some km) (hr:pn ρ (mm++km)=true) (ht:yv ρ kt=true) (hm:yw ρ km=true)
  (hL:mF ρ m L) (Jx:ri L ρ ⟨n,t,m⟩ mt) (Jy:nI L ρ m mm) (h:G ⟨n,mt++kt,mm++km⟩):∃s2,BK ⟨n,t,m⟩ s2∧G s2:=
 ⟨⟨n,mt++kt,mm++km⟩,⟨L,ρ,rfl,hr,hL,Js Jx (Ju (vH hk ht)),Jt Jy (Jv (vI Jw hm))⟩,h⟩
theorem aaZ {t e b len:Nat} {x:Operand} {lo hi:Option Operand} {D E:ae} {k:eI} {l h:Int} (ho:o.op=.slice t x lo hi none) (hD:az P t=some D) (hk:D.k=.slice e) (hE:az P e=some E) (hx:s.ev x=.arr b 0 len) (hb:lk b s.m=some (some k)) (jj:k.bW=E.size) (ko:tP s lo 0 l) (jV:tP s hi len h) (h0:0≤l) (h1:l<len) (h2:l≤h) (h3:h≤len):
  cM P o s ⟨.arr b l.toNat (h.toNat -l.toNat),[],[b],[]⟩:=by
 have ot:=pg hD hk;intro s' _ bS fE _;refine f_ fun c φ R a w hs=>?_
 have e0:=hs.ev x;rw [bS x (by simp [ho,Op.operands]),hx] at e0;generalize hq:a.eval x=q at e0;cases e0 with
 |kg=>omega
 |@arr _ _ _ _ cap hm fO lE tu=>
  obtain⟨oh,fF,hr⟩:=hs.m.rel b k (by rw [fE b (by simp)];exact hb);rw [fO] at fF;cases fF;have Bc:E.size=hm.bW:=by rw [←hr.1,jj]
  have yE:=JE (P:=P) w true len cap (lo.map a.eval) (hi.map a.eval) l h (by
   cases lo with
   |none=>exact ko
   |some y=>
    obtain⟨k,hk⟩:=ko;exact⟨k,BQ hs hk (bS y (by simp [ho,Op.operands]))⟩) (by
   cases hi with
   |none=>exact jV
   |some y=>
    obtain⟨k,hk⟩:=jV;exact⟨k,BQ hs hk (bS y (by cases lo<;>simp [ho,Op.operands]))⟩) h0 h2 (by omega) lE
  have ep:cap≠l.toNat:=by omega
  refine⟨.slice (some ⟨hm.cA,l.toNat*hm.bW,none⟩) (h.toNat -l.toNat) (cap -l.toNat),?_,.arr fO (by omega) (by omega)⟩;simp only [execOp,ho,hq,Instr.sliceAt,Instr.slice];simp [run_underlying ot w,yE,run_sizeOf hE w,q7,ep,Bc]
theorem aa0 {α:Type} (xs ys:List α) (off K i:Nat) (h1:off+K≤xs.length) (h2:K≤ys.length):(xs.take off++ys.take K++xs.drop (off+K))[i]?=if off≤i∧i<off+K then ys[i -off]?else xs[i]?:=by
 have l1:(xs.take off).length=off:=by simp;omega
 have l2:(ys.take K).length=K:=by simp;omega
 by_cases hi:i<off
 ·rw [List.append_assoc,List.getElem?_append_left (by omega),List.getElem?_take,if_pos hi,if_neg (by omega)]
 ·by_cases hj:i<off+K
  ·rw [List.getElem?_append_left (by simp;omega),List.getElem?_append_right (by omega),l1,List.getElem?_take,if_pos (by omega),if_pos (by omega)]
  ·rw [List.getElem?_append_right (by simp;omega),if_neg (by omega),List.getElem?_drop];congr 1;simp;omega
variable{n:Nat} {t:List (Nat×AV)} {m:Mem}
theorem FP {o:Oper} {ty e b len bt bz:Nat} {t':List (Nat×AV)} {x:Operand} {lo hi:Option Operand} {D E:ae} {xs:List AV} (a c:Int) (hc:(decide (0≤a)&&(decide (a<(len:Int))&&(decide (a≤c)&&decide (c≤(len:Int)))))=true) (ht:ff P tt) (hg:dV ops ⟨n,t,m⟩ o=some true) (ho:o.op=.slice ty x lo hi none) (hD:lk ty tt=some D) (hk:D.k=.slice e) (hE:lk e tt=some E)
  (hx:(⟨n,t,m⟩:St).ev x=.arr b 0 len) (hb:lk b m=some (some ⟨bt,bz,xs⟩)) (hz:Nat.beq bz E.size=true) (ko:tP ⟨n,t,m⟩ lo 0 a) (jV:tP ⟨n,t,m⟩ hi len c) (hp:fB n t o.dst (.arr b a.toNat (c.toNat -a.toNat))=some t')
  (h:Go P ops draw Q l ⟨n,t',m⟩ (some ⟨.arr b a.toNat (c.toNat -a.toNat),[],[b],[]⟩::acc)):Go P ops draw Q (o::l) ⟨n,t,m⟩ acc:=by
 simp only [Bool.and_eq_true,decide_eq_true_eq] at hc;exact eL hg (aaZ (P:=P) (s:=⟨n,t,m⟩) ho (ht _ _ hD) hk (ht _ _ hE) hx hb (Nat.eq_of_beq_eq_true hz) ko jV hc.1 hc.2.1 hc.2.2.1 hc.2.2.2) rfl hp rfl h
theorem aa1 {α:Type} {l:List α} {i:Int} {w:α} (h:aC l i=some w):0≤i∧i.toNat<l.length∧l[i.toNat]?=some w:=by
 cases i with
 |ofNat k=>
  have h':l[k]?=some w:=h;exact⟨Int.natCast_nonneg k,(List.getElem?_eq_some_iff.1 h').1,h'⟩
 |negSucc k=>cases h
theorem FQ:∀(n:Nat) (cs:List AV),n≤cs.length→kD cs n=some (cs.drop n)
 |0,cs,h=>by simp [kD]
 |n+1,[],h=>by simp at h
 |n+1,c::cs,h=>by
  simp only [kD,List.drop_succ_cons];exact FQ n cs (by simpa using h)
theorem cz.aa2 {c:Ctx} {φ:Ph} {R:Nat→Prop} {n d:Nat} {t:List (Nat×AV)} {m:Mem} {k k':eI} {a:Act} {w:World} (h:cz c φ R ⟨n,t,(d,some k)::m⟩ a w) (hk:∀oh,iB w R φ oh k→iB w R φ oh k'):cz c φ R ⟨n,t,(d,some k')::m⟩ a w:=by
 have f:∀b x,lk b ((d,some k')::m)=some x→(b=d∧x=some k'∧lk b ((d,some k)::m)=some (some k))∨lk b ((d,some k)::m)=some x:=by
  intro b x hb;rw [dP] at hb⊢;by_cases e:b=d
  ·rw [if_pos e] at hb⊢;cases hb;exact .inl ⟨e,rfl,rfl⟩
  ·rw [if_neg e] at hb⊢;exact .inr hb
 have g:∀b k1,lk b ((d,some k')::m)=some (some k1)→∃k0,lk b ((d,some k)::m)=some (some k0):=by
  intro b k1 hb;rcases f b _ hb with⟨_,_,h3⟩|h3
  ·exact⟨_,h3⟩
  ·exact⟨_,h3⟩
 refine⟨h.n,h.t,⟨fun b k1 hb=>?_,fun b b' k1 k2 y y' hb gH=>?_,fun b k1 y hb=>?_,h.m.gl⟩,fun b x hx=>?_,fun b k1 y hb=>?_,h.R0,h.Rn,h.Rb,h.ext,h.d,h.eK⟩
 ·rcases f b _ hb with⟨_,h2,h3⟩|h3
  ·cases h2;obtain⟨oh,ho,hr⟩:=h.m.rel b k h3;exact⟨oh,ho,hk oh hr⟩
  ·exact h.m.rel b k1 h3
 ·obtain⟨k0,h0⟩:=g b k1 hb;obtain⟨k0',h0'⟩:=g b' k2 gH;exact h.m.inj b b' k0 k0' y y' h0 h0'
 ·obtain⟨k0,h0⟩:=g b k1 hb;exact h.m.fA b k0 y h0
 ·obtain⟨y,hy⟩:=h.fZ b x hx;have kC:lk b ((d,some k)::m)=some y:=hy;show∃y,lk b ((d,some k')::m)=some y
  rw [dP] at kC⊢;by_cases e:b=d
  ·rw [if_pos e];exact⟨_,rfl⟩
  ·rw [if_neg e] at kC⊢;exact⟨y,kC⟩
 ·obtain⟨k0,h0⟩:=g b k1 hb;exact h.fresh b k0 y h0
theorem aa5 {v:AV} {d:Nat} {k k':eI} {ac nw:List Nat} (h:cM P o s ⟨v,[(d,some k)],ac,nw⟩) (hk:∀(w:World) (R:Nat→Prop) (φ:Ph) oh,iB w R φ oh k→iB w R φ oh k'):cM P o s ⟨v,[(d,some k')],ac,nw⟩:=by
 intro s' hn bS fE ji c a w next Q hs tI
 refine h s' hn bS fE ji c a w next Q hs fun a' w' cu=>tI a' w' ?_
 obtain⟨φ,R,q⟩:=cu;exact⟨φ,R,cz.aa2 q (hk w' R φ)⟩
end
end Go.Ab
set_option maxRecDepth 20000
namespace Go.Proofs.YtccnpbnokndeeaaGreatDoor
open Go Go.Ab
abbrev I (n:Int):AV:=.sc (.int .i64 n)
abbrev B (b:Bool):AV:=.sc (.bool b)
abbrev S (s:ByteArray):AV:=.sc (.string s)
def OS:ae:=ae.mk aG.base 1 8 (AV.sc Value.nilFunc)
def tN:ae:=ae.mk (aG.int IntKind.i64) 1 8 (I 0)
def OT:ae:=ae.mk (aG.int IntKind.i64) 1 8 (I 0)
def OU:ae:=ae.mk aG.bool 1 1 (B false)
def OV:ae:=ae.mk (aG.int IntKind.u8) 1 1 (AV.sc (Value.int IntKind.u8 0))
def OW:ae:=ae.mk aG.str 1 16 (S ⟨#[]⟩)
def OX:ae:=ae.mk (aG.int IntKind.u64) 1 8 (AV.sc (Value.int IntKind.u64 0))
def OY:ae:=ae.mk (aG.int IntKind.i32) 1 4 (AV.sc (Value.int IntKind.i32 0))
def OZ:ae:=ae.mk (aG.slice 92) 1 24 AV.bF
def O0:ae:=ae.mk (aG.slice 107) 1 24 AV.bF
def O1:ae:=ae.mk (aG.struct [(0,1),(1,1)]) 2 48 (AV.agg [AV.bF,AV.bF])
def O2:ae:=ae.mk (aG.struct [(0,1),(1,1)]) 2 48 (AV.agg [AV.bF,AV.bF])
def O3:ae:=ae.mk (aG.slice 72) 1 24 AV.bF
def O4:ae:=ae.mk (aG.struct [(0,1),(1,1),(2,1),(3,1)]) 4 32 (AV.agg [I 0,I 0,I 0,I 0])
def O5:ae:=ae.mk (aG.struct [(0,1),(1,1),(2,1),(3,1)]) 4 32 (AV.agg [I 0,I 0,I 0,I 0])
def O6:ae:=ae.mk (aG.struct [(0,1),(1,1),(2,1)]) 3 24 (AV.agg [I 0,I 0,I 0])
def O7:ae:=ae.mk (aG.struct [(0,1),(1,1),(2,1)]) 3 24 (AV.agg [I 0,I 0,I 0])
def O8:ae:=ae.mk (aG.struct [(0,2),(2,1),(3,4),(7,3),(10,1),(11,1)]) 12 144 (AV.agg [AV.bF,AV.bF,AV.bF,I 0,I 0,I 0,I 0,I 0,I 0,I 0,I 0,I 0])
def O9:ae:=ae.mk (aG.struct [(0,2),(2,1),(3,4),(7,3),(10,1),(11,1)]) 12 144 (AV.agg [AV.bF,AV.bF,AV.bF,I 0,I 0,I 0,I 0,I 0,I 0,I 0,I 0,I 0])
def O_:ae:=ae.mk (aG.struct [(0,1),(1,1)]) 2 16 (AV.agg [I 0,I 0])
def O':ae:=ae.mk (aG.struct [(0,1),(1,1)]) 2 16 (AV.agg [I 0,I 0])
def Pa:ae:=ae.mk (aG.struct [(0,2),(2,2)]) 4 32 (AV.agg [I 0,I 0,I 0,I 0])
def Pb:ae:=ae.mk (aG.struct [(0,2),(2,2)]) 4 32 (AV.agg [I 0,I 0,I 0,I 0])
def Pc:ae:=ae.mk (aG.slice 99) 1 24 AV.bF
def Pd:ae:=ae.mk (aG.struct [(0,4),(4,1)]) 5 56 (AV.agg [I 0,I 0,I 0,I 0,AV.bF])
def Pe:ae:=ae.mk (aG.struct [(0,4),(4,1)]) 5 56 (AV.agg [I 0,I 0,I 0,I 0,AV.bF])
def Pf:ae:=ae.mk (aG.slice 3) 1 24 AV.bF
def Pg:ae:=ae.mk aG.base 1 8 (AV.sc Value.nilFunc)
def Pj:ae:=ae.mk aG.base 1 8 (AV.sc Value.nilFunc)
def Pk:ae:=ae.mk (aG.slice 140) 1 24 AV.bF
def Pl:ae:=ae.mk (aG.int IntKind.i64) 1 8 (I 0)
def Pm:ae:=ae.mk aG.base 1 8 (AV.sc Value.nilFunc)
def Pn:ae:=ae.mk aG.base 1 8 (AV.sc (Value.pointer none))
def Po:ae:=ae.mk aG.base 1 8 (AV.sc Value.nilFunc)
def Pp:ae:=ae.mk (aG.struct [(0,1),(1,1),(2,1),(3,1),(4,1),(5,1),(6,1),(7,1),(8,1),(9,1),(10,1),(11,1),(12,1)]) 13 112 (AV.agg [S ⟨#[]⟩,I 0,I 0,I 0,I 0,I 0,I 0,I 0,I 0,I 0,I 0,I 0,I 0])
def Pq:ae:=ae.mk (aG.struct [(0,1),(1,1),(2,1),(3,1),(4,1),(5,1),(6,1),(7,1),(8,1),(9,1),(10,1),(11,1),(12,1)]) 13 112 (AV.agg [S ⟨#[]⟩,I 0,I 0,I 0,I 0,I 0,I 0,I 0,I 0,I 0,I 0,I 0,I 0])
def Pr:ae:=ae.mk aG.base 1 8 (AV.sc Value.nilFunc)
def Ps:ae:=ae.mk aG.base 1 8 (AV.sc Value.nilFunc)
def Pt:ae:=ae.mk (aG.struct [(0,1),(1,1),(2,1),(3,1),(4,1)]) 5 40 (AV.agg [I 0,I 0,I 0,I 0,I 0])
def Pu:ae:=ae.mk (aG.struct [(0,1),(1,1),(2,1),(3,1),(4,1)]) 5 40 (AV.agg [I 0,I 0,I 0,I 0,I 0])
def Pv:ae:=ae.mk aG.base 1 8 (AV.sc Value.nilFunc)
def Pw:ae:=ae.mk (aG.slice 68) 1 24 AV.bF
def Px:ae:=ae.mk aG.base 1 8 (AV.sc Value.nilFunc)
def Py:ae:=ae.mk (aG.struct [(0,2),(2,2),(4,2)]) 6 48 (AV.agg [I 0,I 0,I 0,I 0,I 0,I 0])
def Pz:ae:=ae.mk (aG.struct [(0,2),(2,2),(4,2)]) 6 48 (AV.agg [I 0,I 0,I 0,I 0,I 0,I 0])
def PA:ae:=ae.mk (aG.struct [(0,1),(1,1),(2,1)]) 3 24 (AV.agg [I 0,I 0,I 0])
def PB:ae:=ae.mk (aG.struct [(0,1),(1,1),(2,1)]) 3 24 (AV.agg [I 0,I 0,I 0])
def PC:ae:=ae.mk (aG.struct [(0,1),(1,1),(2,1),(3,1),(4,6),(10,1),(11,1),(12,1),(13,3),(16,1),(17,1)]) 18 184 (AV.agg [S ⟨#[]⟩,S ⟨#[]⟩,S ⟨#[]⟩,I 0,I 0,I 0,I 0,I 0,I 0,I 0,I 0,AV.bF,I 0,I 0,I 0,I 0,B false,I 0])
def PD:ae:=ae.mk (aG.struct [(0,1),(1,1),(2,1),(3,1),(4,6),(10,1),(11,1),(12,1),(13,3),(16,1),(17,1)]) 18 184 (AV.agg [S ⟨#[]⟩,S ⟨#[]⟩,S ⟨#[]⟩,I 0,I 0,I 0,I 0,I 0,I 0,I 0,I 0,AV.bF,I 0,I 0,I 0,I 0,B false,I 0])
def PE:ae:=ae.mk aG.base 1 8 (AV.sc Value.nilFunc)
def PF:ae:=ae.mk (aG.struct [(0,1),(1,1),(2,6),(8,1)]) 9 72 (AV.agg [I 0,I 0,I 0,I 0,I 0,I 0,I 0,I 0,I 0])
def PG:ae:=ae.mk (aG.struct [(0,1),(1,1),(2,6),(8,1)]) 9 72 (AV.agg [I 0,I 0,I 0,I 0,I 0,I 0,I 0,I 0,I 0])
def PH:ae:=ae.mk aG.base 1 8 (AV.sc Value.nilFunc)
def PI:ae:=ae.mk aG.base 1 8 (AV.sc Value.nilFunc)
def PJ:ae:=ae.mk (aG.struct [(0,1),(1,1),(2,1),(3,1),(4,1),(5,1),(6,1)]) 7 96 (AV.agg [S ⟨#[]⟩,I 0,I 0,I 0,I 0,AV.bF,AV.bF])
def PK:ae:=ae.mk (aG.struct [(0,1),(1,1),(2,1),(3,1),(4,1),(5,1),(6,1)]) 7 96 (AV.agg [S ⟨#[]⟩,I 0,I 0,I 0,I 0,AV.bF,AV.bF])
def PL:ae:=ae.mk aG.base 1 8 (AV.sc Value.nilFunc)
def PM:ae:=ae.mk aG.base 1 8 (AV.sc Value.nilFunc)
def PN:ae:=ae.mk aG.base 1 8 (AV.sc Value.nilFunc)
def PO:ae:=ae.mk (aG.struct [(0,1),(1,5),(6,1)]) 7 72 (AV.agg [I 0,I 0,I 0,I 0,I 0,AV.bF,I 0])
def PQ:ae:=ae.mk (aG.struct [(0,1),(1,5),(6,1)]) 7 72 (AV.agg [I 0,I 0,I 0,I 0,I 0,AV.bF,I 0])
def PR:ae:=ae.mk aG.base 1 8 (AV.sc Value.nilFunc)
def PS:ae:=ae.mk (aG.slice 77) 1 24 AV.bF
def PU:ae:=ae.mk aG.base 1 8 (AV.sc Value.nilFunc)
def PV:ae:=ae.mk (aG.struct [(0,1),(1,1),(2,1),(3,4),(7,3)]) 10 128 (AV.agg [AV.bF,AV.bF,AV.bF,I 0,I 0,I 0,I 0,I 0,I 0,I 0])
def PW:ae:=ae.mk (aG.struct [(0,1),(1,1),(2,1),(3,4),(7,3)]) 10 128 (AV.agg [AV.bF,AV.bF,AV.bF,I 0,I 0,I 0,I 0,I 0,I 0,I 0])
def PX:ae:=ae.mk aG.base 1 8 (AV.sc Value.nilFunc)
def PY:ae:=ae.mk aG.base 1 8 (AV.sc Value.nilFunc)
def PZ:ae:=ae.mk aG.base 1 8 (AV.sc Value.nilFunc)
def P0:ae:=ae.mk aG.base 1 8 (AV.sc Value.nilFunc)
def P1:ae:=ae.mk (aG.slice 96) 1 24 AV.bF
def P2:ae:=ae.mk (aG.struct [(0,1),(1,1)]) 2 32 (AV.agg [I 0,AV.bF])
def P3:ae:=ae.mk (aG.struct [(0,1),(1,1)]) 2 32 (AV.agg [I 0,AV.bF])
def P4:ae:=ae.mk (aG.struct [(0,1),(1,1)]) 2 16 (AV.agg [I 0,I 0])
def P5:ae:=ae.mk (aG.struct [(0,1),(1,1)]) 2 16 (AV.agg [I 0,I 0])
def P6:ae:=ae.mk (aG.struct [(0,2),(2,1)]) 3 24 (AV.agg [I 0,I 0,B false])
def P7:ae:=ae.mk (aG.struct [(0,2),(2,1)]) 3 24 (AV.agg [I 0,I 0,B false])
def P8:ae:=ae.mk aG.base 1 8 (AV.sc Value.nilFunc)
def P9:ae:=ae.mk (aG.struct [(0,1),(1,1)]) 2 16 (AV.agg [I 0,I 0])
def Qa:ae:=ae.mk (aG.struct [(0,1),(1,1)]) 2 16 (AV.agg [I 0,I 0])
def Qb:ae:=ae.mk aG.base 1 8 (AV.sc Value.nilFunc)
def Qc:ae:=ae.mk aG.base 1 8 (AV.sc Value.nilFunc)
def Qd:ae:=ae.mk aG.base 1 8 (AV.sc Value.nilFunc)
def Qe:ae:=ae.mk aG.base 1 8 (AV.sc Value.nilFunc)
def Qf:ae:=ae.mk aG.base 1 8 (AV.sc Value.nilFunc)
def Qg:ae:=ae.mk (aG.struct [(0,1),(1,6)]) 7 56 (AV.agg [I 0,I 0,I 0,I 0,I 0,I 0,I 0])
def Qh:ae:=ae.mk (aG.struct [(0,1),(1,6)]) 7 56 (AV.agg [I 0,I 0,I 0,I 0,I 0,I 0,I 0])
def Qi:ae:=ae.mk aG.base 1 8 (AV.sc Value.nilFunc)
def Qj:ae:=ae.mk (aG.slice 121) 1 24 AV.bF
def Qk:ae:=ae.mk aG.base 1 8 (AV.sc Value.nilFunc)
def Ql:ae:=ae.mk aG.base 1 8 (AV.sc Value.nilFunc)
def Qm:ae:=ae.mk aG.base 1 8 (AV.sc Value.nilFunc)
def Qn:ae:=ae.mk (aG.slice 119) 1 24 AV.bF
def Qo:ae:=ae.mk (aG.slice 36) 1 24 AV.bF
def Qp:ae:=ae.mk (aG.struct [(0,1),(1,1),(2,1),(3,4),(7,3),(10,1),(11,1),(12,1),(13,1)]) 14 208 (AV.agg [AV.bF,AV.bF,AV.bF,I 0,I 0,I 0,I 0,I 0,I 0,I 0,I 0,AV.bF,AV.bF,AV.bF])
def Qq:ae:=ae.mk (aG.struct [(0,1),(1,1),(2,1),(3,4),(7,3),(10,1),(11,1),(12,1),(13,1)]) 14 208 (AV.agg [AV.bF,AV.bF,AV.bF,I 0,I 0,I 0,I 0,I 0,I 0,I 0,I 0,AV.bF,AV.bF,AV.bF])
def Qr:ae:=ae.mk (aG.struct [(0,1),(1,1),(2,1),(3,1),(4,1),(5,4),(9,1),(10,4),(14,1),(15,9)]) 24 192 (AV.agg [I 0,I 0,I 0,I 0,B false,I 0,I 0,I 0,I 0,I 0,I 0,I 0,I 0,I 0,B false,I 0,I 0,I 0,I 0,I 0,I 0,I 0,I 0,I 0])
def Qs:ae:=ae.mk (aG.struct [(0,1),(1,1),(2,1),(3,1),(4,1),(5,4),(9,1),(10,4),(14,1),(15,9)]) 24 192 (AV.agg [I 0,I 0,I 0,I 0,B false,I 0,I 0,I 0,I 0,I 0,I 0,I 0,I 0,I 0,B false,I 0,I 0,I 0,I 0,I 0,I 0,I 0,I 0,I 0])
def Qt:ae:=ae.mk (aG.struct [(0,4),(4,1)]) 5 40 (AV.agg [I 0,I 0,I 0,I 0,I 0])
def Qu:ae:=ae.mk (aG.struct [(0,4),(4,1)]) 5 40 (AV.agg [I 0,I 0,I 0,I 0,I 0])
def Qv:ae:=ae.mk aG.base 1 8 (AV.sc Value.nilFunc)
def Qw:ae:=ae.mk aG.base 1 8 (AV.sc Value.nilFunc)
def Qx:ae:=ae.mk aG.base 1 8 (AV.sc (Value.pointer none))
def Qy:ae:=ae.mk aG.base 1 8 (AV.sc Value.nilFunc)
def Qz:ae:=ae.mk (aG.struct [(0,1),(1,1)]) 2 16 (AV.agg [I 0,I 0])
def QA:ae:=ae.mk (aG.struct [(0,1),(1,1)]) 2 16 (AV.agg [I 0,I 0])
def QB:ae:=ae.mk aG.base 1 8 (AV.sc Value.nilFunc)
def QC:ae:=ae.mk (aG.array 2 128) 2 16 (AV.agg [AV.sc Value.nilFunc,AV.sc Value.nilFunc])
def QD:ae:=ae.mk aG.base 1 8 (AV.sc Value.nilFunc)
def QE:ae:=ae.mk aG.base 1 8 (AV.sc Value.nilFunc)
def QF:ae:=ae.mk (aG.slice 34) 1 24 AV.bF
def QG:ae:=ae.mk aG.base 1 8 (AV.sc Value.nilFunc)
def QH:ae:=ae.mk aG.base 1 8 (AV.sc Value.nilFunc)
def QI:ae:=ae.mk aG.base 1 8 (AV.sc Value.nilFunc)
def QJ:ae:=ae.mk aG.base 1 8 (AV.sc Value.nilFunc)
def QK:ae:=ae.mk (aG.struct [(0,1),(1,1)]) 2 32 (AV.agg [I 0,AV.bF])
def QL:ae:=ae.mk (aG.struct [(0,1),(1,1)]) 2 32 (AV.agg [I 0,AV.bF])
def QM:ae:=ae.mk (aG.struct [(0,1),(1,2)]) 3 40 (AV.agg [I 0,I 0,AV.bF])
def QN:ae:=ae.mk (aG.struct [(0,1),(1,2)]) 3 40 (AV.agg [I 0,I 0,AV.bF])
def QO:ae:=ae.mk aG.base 1 8 (AV.sc Value.nilFunc)
def QP:ae:=ae.mk aG.base 1 8 (AV.sc Value.nilFunc)
def QQ:ae:=ae.mk aG.base 1 8 (AV.sc Value.nilFunc)
def QR:ae:=ae.mk aG.base 1 8 (AV.sc Value.nilFunc)
def QS:ae:=ae.mk aG.base 1 8 (AV.sc Value.nilFunc)
def QT:ae:=ae.mk (aG.array 2 3) 2 16 (AV.agg [I 0,I 0])
def QU:ae:=ae.mk aG.base 1 8 (AV.sc Value.nilFunc)
def QV:ae:=ae.mk aG.base 1 8 (AV.sc Value.nilFunc)
def QW:ae:=ae.mk aG.base 1 8 (AV.sc Value.nilFunc)
def QX:ae:=ae.mk aG.base 1 8 (AV.sc Value.nilFunc)
def QY:ae:=ae.mk aG.base 1 8 (AV.sc Value.nilFunc)
def QZ:ae:=ae.mk aG.base 1 8 (AV.sc Value.nilFunc)
def Q0:ae:=ae.mk aG.base 1 8 (AV.sc Value.nilFunc)
def Q1:ae:=ae.mk aG.base 1 8 (AV.sc Value.nilFunc)
def Q2:ae:=ae.mk aG.base 1 8 (AV.sc Value.nilFunc)
def Q3:ae:=ae.mk (aG.struct [(0,1),(1,1),(2,1),(3,5),(8,4),(12,3)]) 15 184 (AV.agg [AV.bF,AV.bF,AV.bF,I 0,I 0,I 0,I 0,AV.bF,I 0,I 0,I 0,I 0,I 0,I 0,I 0])
def Q4:ae:=ae.mk (aG.struct [(0,1),(1,1),(2,1),(3,5),(8,4),(12,3)]) 15 184 (AV.agg [AV.bF,AV.bF,AV.bF,I 0,I 0,I 0,I 0,AV.bF,I 0,I 0,I 0,I 0,I 0,I 0,I 0])
def Q5:ae:=ae.mk aG.base 1 8 (AV.sc Value.nilFunc)
def Q6:ae:=ae.mk aG.base 1 8 (AV.sc Value.nilFunc)
def Q7:ae:=ae.mk (aG.array 4 3) 4 32 (AV.agg [I 0,I 0,I 0,I 0])
def Q8:ae:=ae.mk aG.base 1 8 (AV.sc Value.nilFunc)
def Q9:ae:=ae.mk aG.base 1 8 (AV.sc Value.nilFunc)
def Q_:ae:=ae.mk aG.base 1 8 (AV.sc Value.nilFunc)
def Re:ae:=ae.mk aG.base 1 8 (AV.sc Value.nilFunc)
def Rf:ae:=ae.mk (aG.slice 138) 1 24 AV.bF
def Rg:ae:=ae.mk aG.base 1 8 (AV.sc Value.nilFunc)
def Rh:ae:=ae.mk aG.base 1 8 (AV.sc Value.nilFunc)
def Ri:ae:=ae.mk aG.base 1 8 (AV.sc Value.nilFunc)
def Rj:ae:=ae.mk aG.base 1 8 (AV.sc Value.nilFunc)
def Rk:ae:=ae.mk aG.base 1 8 (AV.sc Value.nilFunc)
def Rl:ae:=ae.mk aG.base 1 8 (AV.sc Value.nilFunc)
def Rm:ae:=ae.mk aG.base 1 8 (AV.sc Value.nilFunc)
def Ro:ae:=ae.mk aG.base 1 8 (AV.sc Value.nilFunc)
def Rp:ae:=ae.mk aG.base 1 8 (AV.sc Value.nilFunc)
def Rq:ae:=ae.mk (aG.struct [(0,4),(4,1)]) 5 40 (AV.agg [I 0,I 0,I 0,I 0,I 0])
def Rr:ae:=ae.mk (aG.struct [(0,4),(4,1)]) 5 40 (AV.agg [I 0,I 0,I 0,I 0,I 0])
def Rt:ae:=ae.mk aG.base 1 8 (AV.sc Value.nilFunc)
def Ru:ae:=ae.mk aG.base 1 8 (AV.sc Value.nilFunc)
def Rv:ae:=ae.mk aG.base 1 8 (AV.sc (Value.pointer none))
def Rw:ae:=ae.mk aG.base 1 8 (AV.sc Value.nilFunc)
def Rx:ae:=ae.mk (aG.array 3 34) 6 48 (AV.agg [I 0,I 0,I 0,I 0,I 0,I 0])
def Ry:ae:=ae.mk aG.base 1 8 (AV.sc Value.nilFunc)
def Rz:ae:=ae.mk aG.base 1 8 (AV.sc Value.nilFunc)
def RA:ae:=ae.mk aG.base 1 8 (AV.sc Value.nilFunc)
def RB:ae:=ae.mk aG.base 1 8 (AV.sc Value.nilFunc)
def RC:ae:=ae.mk aG.base 1 8 (AV.sc Value.nilFunc)
def RD:ae:=ae.mk (aG.slice 260) 1 24 AV.bF
def RE:ae:=ae.mk aG.base 1 8 (AV.sc Value.nilFunc)
def RF:ae:=ae.mk aG.base 1 8 (AV.sc Value.nilFunc)
def RG:ae:=ae.mk (aG.int IntKind.u64) 1 8 (AV.sc (Value.int IntKind.u64 0))
def RH:ae:=ae.mk aG.base 1 8 (AV.sc Value.nilFunc)
def RI:ae:=ae.mk aG.base 1 8 (AV.sc Value.nilFunc)
def RJ:ae:=ae.mk aG.base 1 8 (AV.sc Value.nilFunc)
def RK:ae:=ae.mk (aG.array 2 34) 4 32 (AV.agg [I 0,I 0,I 0,I 0])
def RL:ae:=ae.mk aG.base 1 8 (AV.sc Value.nilFunc)
def RM:ae:=ae.mk aG.base 1 8 (AV.sc Value.nilFunc)
def RN:ae:=ae.mk aG.base 1 8 (AV.sc Value.nilFunc)
def RO:ae:=ae.mk aG.base 1 8 (AV.sc Value.nilFunc)
def RQ:ae:=ae.mk aG.base 1 8 (AV.sc Value.nilFunc)
def RS:ae:=ae.mk aG.base 1 8 (AV.sc Value.nilFunc)
def RT:ae:=ae.mk aG.base 1 8 (AV.sc Value.nilFunc)
def RU:ae:=ae.mk aG.base 1 8 (AV.sc Value.nilFunc)
def RV:ae:=ae.mk (aG.slice 94) 1 24 AV.bF
def RW:ae:=ae.mk aG.base 1 8 (AV.sc Value.nilFunc)
def RX:ae:=ae.mk (aG.slice 40) 1 24 AV.bF
def RY:ae:=ae.mk (aG.struct [(0,1),(1,1),(2,1),(3,1),(4,1),(5,1),(6,1)]) 7 120 (AV.agg [I 0,I 0,I 0,AV.bF,AV.bF,AV.bF,AV.bF])
def RZ:ae:=ae.mk (aG.struct [(0,1),(1,1),(2,1),(3,1),(4,1),(5,1),(6,1)]) 7 120 (AV.agg [I 0,I 0,I 0,AV.bF,AV.bF,AV.bF,AV.bF])
def R4:ae:=ae.mk (aG.slice 222) 1 24 AV.bF
def R5:ae:=ae.mk aG.base 1 8 (AV.sc Value.nilFunc)
def R6:ae:=ae.mk (aG.slice 224) 1 24 AV.bF
def R7:ae:=ae.mk aG.base 1 8 (AV.sc Value.nilFunc)
def R8:ae:=ae.mk (aG.slice 37) 1 24 AV.bF
def R9:ae:=ae.mk (aG.struct [(0,1),(1,1)]) 2 16 (AV.agg [I 0,I 0])
def R_:ae:=ae.mk (aG.struct [(0,1),(1,1)]) 2 16 (AV.agg [I 0,I 0])
def Sa:ae:=ae.mk aG.base 1 8 (AV.sc Value.nilFunc)
def Sb:ae:=ae.mk aG.base 1 8 (AV.sc Value.nilFunc)
def Sc:ae:=ae.mk aG.base 1 8 (AV.sc Value.nilFunc)
def Sd:ae:=ae.mk aG.base 1 8 (AV.sc Value.nilFunc)
def Se:ae:=ae.mk aG.base 1 8 (AV.sc Value.nilFunc)
def Sf:ae:=ae.mk aG.base 1 8 (AV.sc Value.nilFunc)
def Sg:ae:=ae.mk aG.base 1 8 (AV.sc Value.nilFunc)
def Si:ae:=ae.mk aG.base 1 8 (AV.sc Value.nilFunc)
def Sj:ae:=ae.mk aG.base 1 8 (AV.sc Value.nilFunc)
def Sk:ae:=ae.mk aG.base 1 8 (AV.sc Value.nilFunc)
def Sl:ae:=ae.mk aG.base 1 8 (AV.sc Value.nilFunc)
def Sm:ae:=ae.mk aG.base 1 8 (AV.sc Value.nilFunc)
def Sn:ae:=ae.mk aG.base 1 8 (AV.sc Value.nilFunc)
def Sq:ae:=ae.mk aG.base 1 8 (AV.sc Value.nilFunc)
def Sr:ae:=ae.mk aG.base 1 8 (AV.sc Value.nilFunc)
def Ss:ae:=ae.mk aG.base 1 8 (AV.sc Value.nilFunc)
def Su:ae:=ae.mk aG.base 1 8 (AV.sc Value.nilFunc)
def Sv:ae:=ae.mk aG.base 1 8 (AV.sc Value.nilFunc)
def Sw:ae:=ae.mk aG.base 1 8 (AV.sc Value.nilFunc)
def Sx:ae:=ae.mk aG.base 1 8 (AV.sc Value.nilFunc)
def Sy:ae:=ae.mk aG.base 1 8 (AV.sc Value.nilFunc)
def Sz:ae:=ae.mk aG.base 1 8 (AV.sc Value.nilFunc)
def SA:ae:=ae.mk (aG.slice 180) 1 24 AV.bF
def SB:ae:=ae.mk aG.base 1 8 (AV.sc Value.nilFunc)
def SC:ae:=ae.mk (aG.struct [(0,7),(7,4),(11,1),(12,1),(13,1)]) 14 184 (AV.agg [S ⟨#[]⟩,I 0,I 0,I 0,I 0,AV.bF,AV.bF,I 0,I 0,I 0,I 0,I 0,AV.bF,AV.bF])
def SD:ae:=ae.mk (aG.struct [(0,7),(7,4),(11,1),(12,1),(13,1)]) 14 184 (AV.agg [S ⟨#[]⟩,I 0,I 0,I 0,I 0,AV.bF,AV.bF,I 0,I 0,I 0,I 0,I 0,AV.bF,AV.bF])
def SE:ae:=ae.mk aG.base 1 8 (AV.sc Value.nilFunc)
def SF:ae:=ae.mk aG.base 1 8 (AV.sc Value.nilFunc)
def SG:ae:=ae.mk (aG.struct [(0,2),(2,1)]) 3 24 (AV.agg [I 0,I 0,I 0])
def SH:ae:=ae.mk (aG.struct [(0,2),(2,1)]) 3 24 (AV.agg [I 0,I 0,I 0])
def SI:ae:=ae.mk (aG.slice 264) 1 24 AV.bF
def SJ:ae:=ae.mk aG.base 1 8 (AV.sc Value.nilFunc)
def SK:ae:=ae.mk (aG.struct [(0,1),(1,1),(2,1),(3,1)]) 4 32 (AV.agg [I 0,I 0,AV.sc Value.nilFunc,I 0])
def SL:ae:=ae.mk (aG.struct [(0,1),(1,1),(2,1),(3,1)]) 4 32 (AV.agg [I 0,I 0,AV.sc Value.nilFunc,I 0])
def SM:ae:=ae.mk aG.base 1 8 (AV.sc Value.nilFunc)
def SN:ae:=ae.mk aG.base 1 8 (AV.sc Value.nilFunc)
def SO:ae:=ae.mk aG.base 1 8 (AV.sc Value.nilFunc)
def SP:ae:=ae.mk aG.base 1 8 (AV.sc Value.nilFunc)
def SQ:ae:=ae.mk aG.base 1 8 (AV.sc Value.nilFunc)
def SR:ae:=ae.mk aG.base 1 8 (AV.sc Value.nilFunc)
def SS:ae:=ae.mk (aG.slice 275) 1 24 AV.bF
def SU:ae:=ae.mk aG.base 1 8 (AV.sc Value.nilFunc)
def SV:ae:=ae.mk (aG.struct [(0,2),(2,1)]) 3 24 (AV.agg [I 0,I 0,I 0])
def SX:ae:=ae.mk (aG.struct [(0,2),(2,1)]) 3 24 (AV.agg [I 0,I 0,I 0])
def SY:ae:=ae.mk aG.base 1 8 (AV.sc Value.nilFunc)
def SZ:ae:=ae.mk aG.base 1 8 (AV.sc Value.nilFunc)
def S0:ae:=ae.mk aG.base 1 8 (AV.sc Value.nilFunc)
def S1:ae:=ae.mk aG.base 1 8 (AV.sc Value.nilFunc)
def S2:ae:=ae.mk aG.base 1 8 (AV.sc Value.nilFunc)
def S3:ae:=ae.mk aG.base 1 8 (AV.sc Value.nilFunc)
def S4:ae:=ae.mk aG.base 1 8 (AV.sc Value.nilFunc)
def S5:ae:=ae.mk (aG.array 4 94) 8 64 (AV.agg [I 0,I 0,I 0,I 0,I 0,I 0,I 0,I 0])
def S6:ae:=ae.mk aG.base 1 8 (AV.sc Value.nilFunc)
def S7:ae:=ae.mk aG.base 1 8 (AV.sc Value.nilFunc)
def S8:ae:=ae.mk aG.base 1 8 (AV.sc Value.nilFunc)
def S9:ae:=ae.mk aG.base 1 8 (AV.sc Value.nilFunc)
def S_:ae:=ae.mk aG.base 1 8 (AV.sc Value.nilFunc)
def S':ae:=ae.mk aG.base 1 8 (AV.sc Value.nilFunc)
def Ta:ae:=ae.mk aG.base 1 8 (AV.sc Value.nilFunc)
def Tb:ae:=ae.mk aG.base 1 8 (AV.sc Value.nilFunc)
def Tc:ae:=ae.mk aG.base 1 8 (AV.sc Value.nilFunc)
def Td:ae:=ae.mk aG.base 1 8 (AV.sc Value.nilFunc)
def Te:ae:=ae.mk aG.base 1 8 (AV.sc Value.nilFunc)
def Tf:ae:=ae.mk aG.base 1 8 (AV.sc Value.nilFunc)
def Tg:ae:=ae.mk aG.base 1 8 (AV.sc Value.nilFunc)
def Th:ae:=ae.mk aG.base 1 8 (AV.sc Value.nilFunc)
def Ti:ae:=ae.mk aG.base 1 8 (AV.sc Value.nilFunc)
def Tj:ae:=ae.mk aG.base 1 8 (AV.sc Value.nilFunc)
def Tk:ae:=ae.mk aG.base 1 8 (AV.sc Value.nilFunc)
def Tl:ae:=ae.mk aG.base 1 8 (AV.sc Value.nilFunc)
def Tm:ae:=ae.mk aG.base 1 8 (AV.sc Value.nilFunc)
def Tn:ae:=ae.mk aG.base 1 8 (AV.sc Value.nilFunc)
def To:ae:=ae.mk aG.base 1 8 (AV.sc Value.nilFunc)
def Tp:ae:=ae.mk aG.base 1 8 (AV.sc Value.nilFunc)
def Tq:ae:=ae.mk aG.base 1 8 (AV.sc Value.nilFunc)
def Tr:ae:=ae.mk aG.base 1 8 (AV.sc Value.nilFunc)
def Ts:ae:=ae.mk (aG.int IntKind.u64) 1 8 (AV.sc (Value.int IntKind.u64 0))
def Tt:ae:=ae.mk aG.base 1 8 (AV.sc Value.nilFunc)
def Tu:ae:=ae.mk aG.base 1 8 (AV.sc Value.nilFunc)
def Tv:ae:=ae.mk aG.base 1 8 (AV.sc Value.nilFunc)
def Tw:ae:=ae.mk aG.base 1 8 (AV.sc Value.nilFunc)
def Tx:ae:=ae.mk aG.base 1 8 (AV.sc Value.nilFunc)
def Ty:ae:=ae.mk aG.base 1 8 (AV.sc Value.nilFunc)
def Tz:ae:=ae.mk aG.base 1 8 (AV.sc Value.nilFunc)
def TA:ae:=ae.mk aG.base 1 8 (AV.sc Value.nilFunc)
def TB:ae:=ae.mk aG.base 1 8 (AV.sc Value.nilFunc)
def TC:ae:=ae.mk (aG.int IntKind.i64) 1 8 (I 0)
def TD:ae:=ae.mk aG.base 1 8 (AV.sc Value.nilFunc)
def TE:ae:=ae.mk aG.base 1 8 (AV.sc Value.nilFunc)
def TF:ae:=ae.mk aG.base 1 8 (AV.sc Value.nilFunc)
def TG:ae:=ae.mk aG.base 1 8 (AV.sc Value.nilFunc)
def TH:ae:=ae.mk aG.base 1 8 (AV.sc Value.nilFunc)
def TI:ae:=ae.mk aG.base 1 8 (AV.sc Value.nilFunc)
def TJ:ae:=ae.mk (aG.int IntKind.u32) 1 4 (AV.sc (Value.int IntKind.u32 0))
def TK:ae:=ae.mk aG.base 1 8 (AV.sc Value.nilFunc)
def TL:ae:=ae.mk aG.base 1 8 (AV.sc Value.nilFunc)
def TM:ae:=ae.mk (aG.int IntKind.u64) 1 8 (AV.sc (Value.int IntKind.u64 0))
def TN:ae:=ae.mk aG.base 1 8 (AV.sc Value.nilFunc)
def TO:ae:=ae.mk aG.base 1 8 (AV.sc Value.nilFunc)
def TP:ae:=ae.mk aG.base 1 8 (AV.sc Value.nilFunc)
def TQ:ae:=ae.mk aG.base 1 8 (AV.sc (Value.pointer none))
def TR:ae:=ae.mk aG.base 1 8 (AV.sc Value.nilFunc)
def TS:ae:=ae.mk aG.base 1 8 (AV.sc Value.nilFunc)
def TU:ae:=ae.mk aG.base 1 8 (AV.sc Value.nilFunc)
def TV:ae:=ae.mk aG.base 1 8 (AV.sc Value.nilFunc)
def TW:ae:=ae.mk aG.base 1 8 (AV.sc Value.nilFunc)
def TX:ae:=ae.mk aG.base 1 8 (AV.sc Value.nilFunc)
def TY:ae:=ae.mk aG.base 1 8 (AV.sc (Value.pointer none))
def TZ:ae:=ae.mk aG.base 1 8 (AV.sc Value.nilFunc)
def T0:ae:=ae.mk aG.base 1 8 (AV.sc Value.nilFunc)
def T1:ae:=ae.mk aG.base 1 8 (AV.sc Value.nilFunc)
def T2:ae:=ae.mk aG.base 1 8 (AV.sc Value.nilFunc)
def T3:ae:=ae.mk aG.base 1 8 (AV.sc Value.nilFunc)
def T4:ae:=ae.mk aG.base 1 8 (AV.sc Value.nilFunc)
def T5:ae:=ae.mk aG.base 1 8 (AV.sc Value.nilFunc)
def T6:ae:=ae.mk aG.base 1 8 (AV.sc (Value.pointer none))
theorem aa6:az Tryz.prog 1=some OS:=by kernel_rfl
theorem aa7:az Tryz.prog 2=some tN:=by kernel_rfl
theorem JH:az Tryz.prog 3=some OT:=by kernel_rfl
theorem aa8:az Tryz.prog 4=some OU:=by kernel_rfl
theorem aa9:az Tryz.prog 5=some OV:=by kernel_rfl
theorem aa_:az Tryz.prog 9=some OW:=by kernel_rfl
theorem aa':az Tryz.prog 12=some OX:=by kernel_rfl
theorem aba:az Tryz.prog 21=some OY:=by kernel_rfl
theorem abb:az Tryz.prog 22=some OZ:=by kernel_rfl
theorem abc:az Tryz.prog 23=some O0:=by kernel_rfl
theorem abd:az Tryz.prog 24=some O1:=by kernel_rfl
theorem abe:az Tryz.prog 25=some O2:=by kernel_rfl
theorem abf:az Tryz.prog 26=some O3:=by kernel_rfl
theorem abg:az Tryz.prog 27=some O4:=by kernel_rfl
theorem abh:az Tryz.prog 28=some O5:=by kernel_rfl
theorem abi:az Tryz.prog 29=some O6:=by kernel_rfl
theorem abj:az Tryz.prog 30=some O7:=by kernel_rfl
theorem abk:az Tryz.prog 31=some O8:=by kernel_rfl
theorem abl:az Tryz.prog 32=some O9:=by kernel_rfl
theorem abm:az Tryz.prog 33=some O_:=by kernel_rfl
theorem abn:az Tryz.prog 34=some O':=by kernel_rfl
theorem abo:az Tryz.prog 35=some Pa:=by kernel_rfl
theorem abp:az Tryz.prog 36=some Pb:=by kernel_rfl
theorem abq:az Tryz.prog 37=some Pc:=by kernel_rfl
theorem abr:az Tryz.prog 38=some Pd:=by kernel_rfl
theorem abt:az Tryz.prog 39=some Pe:=by kernel_rfl
theorem abu:az Tryz.prog 40=some Pf:=by kernel_rfl
theorem abv:az Tryz.prog 41=some Pg:=by kernel_rfl
theorem abw:az Tryz.prog 42=some Pj:=by kernel_rfl
theorem abx:az Tryz.prog 43=some Pk:=by kernel_rfl
theorem aby:az Tryz.prog 44=some Pl:=by kernel_rfl
theorem abz:az Tryz.prog 46=some Pm:=by kernel_rfl
theorem abA:az Tryz.prog 47=some Pn:=by kernel_rfl
theorem abB:az Tryz.prog 49=some Po:=by kernel_rfl
theorem abC:az Tryz.prog 50=some Pp:=by kernel_rfl
theorem abD:az Tryz.prog 51=some Pq:=by kernel_rfl
theorem abE:az Tryz.prog 52=some Pr:=by kernel_rfl
theorem abF:az Tryz.prog 53=some Ps:=by kernel_rfl
theorem abG:az Tryz.prog 54=some Pt:=by kernel_rfl
theorem abH:az Tryz.prog 55=some Pu:=by kernel_rfl
theorem abI:az Tryz.prog 57=some Pv:=by kernel_rfl
theorem abJ:az Tryz.prog 58=some Pw:=by kernel_rfl
theorem abK:az Tryz.prog 59=some Px:=by kernel_rfl
theorem abL:az Tryz.prog 60=some Py:=by kernel_rfl
theorem abM:az Tryz.prog 61=some Pz:=by kernel_rfl
theorem abN:az Tryz.prog 62=some PA:=by kernel_rfl
theorem abO:az Tryz.prog 63=some PB:=by kernel_rfl
theorem abP:az Tryz.prog 64=some PC:=by kernel_rfl
theorem abQ:az Tryz.prog 65=some PD:=by kernel_rfl
theorem abR:az Tryz.prog 66=some PE:=by kernel_rfl
theorem abS:az Tryz.prog 67=some PF:=by kernel_rfl
theorem abT:az Tryz.prog 68=some PG:=by kernel_rfl
theorem abU:az Tryz.prog 69=some PH:=by kernel_rfl
theorem abV:az Tryz.prog 70=some PI:=by kernel_rfl
theorem abW:az Tryz.prog 71=some PJ:=by kernel_rfl
theorem abX:az Tryz.prog 72=some PK:=by kernel_rfl
theorem abY:az Tryz.prog 73=some PL:=by kernel_rfl
theorem abZ:az Tryz.prog 74=some PM:=by kernel_rfl
theorem ab0:az Tryz.prog 75=some PN:=by kernel_rfl
theorem ab1:az Tryz.prog 76=some PO:=by kernel_rfl
theorem ab2:az Tryz.prog 77=some PQ:=by kernel_rfl
theorem ab3:az Tryz.prog 79=some PR:=by kernel_rfl
theorem ab4:az Tryz.prog 80=some PS:=by kernel_rfl
theorem ab5:az Tryz.prog 82=some PU:=by kernel_rfl
theorem ab6:az Tryz.prog 83=some PV:=by kernel_rfl
theorem ab7:az Tryz.prog 84=some PW:=by kernel_rfl
theorem ab8:az Tryz.prog 86=some PX:=by kernel_rfl
theorem ab9:az Tryz.prog 87=some PY:=by kernel_rfl
theorem ab_:az Tryz.prog 88=some PZ:=by kernel_rfl
theorem ab':az Tryz.prog 89=some P0:=by kernel_rfl
theorem aca:az Tryz.prog 90=some P1:=by kernel_rfl
theorem acb:az Tryz.prog 91=some P2:=by kernel_rfl
theorem acd:az Tryz.prog 92=some P3:=by kernel_rfl
theorem ace:az Tryz.prog 93=some P4:=by kernel_rfl
theorem acf:az Tryz.prog 94=some P5:=by kernel_rfl
theorem acg:az Tryz.prog 95=some P6:=by kernel_rfl
theorem ach:az Tryz.prog 96=some P7:=by kernel_rfl
theorem aci:az Tryz.prog 97=some P8:=by kernel_rfl
theorem acj:az Tryz.prog 98=some P9:=by kernel_rfl
theorem ack:az Tryz.prog 99=some Qa:=by kernel_rfl
theorem acm:az Tryz.prog 100=some Qb:=by kernel_rfl
theorem acn:az Tryz.prog 101=some Qc:=by kernel_rfl
theorem aco:az Tryz.prog 102=some Qd:=by kernel_rfl
theorem acp:az Tryz.prog 104=some Qe:=by kernel_rfl
theorem acq:az Tryz.prog 105=some Qf:=by kernel_rfl
theorem acr:az Tryz.prog 106=some Qg:=by kernel_rfl
theorem acu:az Tryz.prog 107=some Qh:=by kernel_rfl
theorem acv:az Tryz.prog 108=some Qi:=by kernel_rfl
theorem acw:az Tryz.prog 109=some Qj:=by kernel_rfl
theorem acx:az Tryz.prog 111=some Qk:=by kernel_rfl
theorem acy:az Tryz.prog 112=some Ql:=by kernel_rfl
theorem acz:az Tryz.prog 113=some Qm:=by kernel_rfl
theorem acA:az Tryz.prog 114=some Qn:=by kernel_rfl
theorem acB:az Tryz.prog 115=some Qo:=by kernel_rfl
theorem acC:az Tryz.prog 116=some Qp:=by kernel_rfl
theorem acD:az Tryz.prog 117=some Qq:=by kernel_rfl
theorem acE:az Tryz.prog 118=some Qr:=by kernel_rfl
theorem acF:az Tryz.prog 119=some Qs:=by kernel_rfl
theorem acG:az Tryz.prog 120=some Qt:=by kernel_rfl
theorem acH:az Tryz.prog 121=some Qu:=by kernel_rfl
theorem acI:az Tryz.prog 122=some Qv:=by kernel_rfl
theorem acJ:az Tryz.prog 123=some Qw:=by kernel_rfl
theorem acK:az Tryz.prog 124=some Qx:=by kernel_rfl
theorem acL:az Tryz.prog 125=some Qy:=by kernel_rfl
theorem acM:az Tryz.prog 126=some Qz:=by kernel_rfl
theorem acN:az Tryz.prog 127=some QA:=by kernel_rfl
theorem acO:az Tryz.prog 128=some QB:=by kernel_rfl
theorem acP:az Tryz.prog 129=some QC:=by kernel_rfl
theorem acQ:az Tryz.prog 130=some QD:=by kernel_rfl
theorem acR:az Tryz.prog 131=some QE:=by kernel_rfl
theorem acS:az Tryz.prog 132=some QF:=by kernel_rfl
theorem acT:az Tryz.prog 133=some QG:=by kernel_rfl
theorem acU:az Tryz.prog 134=some QH:=by kernel_rfl
theorem acV:az Tryz.prog 135=some QI:=by kernel_rfl
theorem acW:az Tryz.prog 136=some QJ:=by kernel_rfl
theorem acX:az Tryz.prog 137=some QK:=by kernel_rfl
theorem acY:az Tryz.prog 138=some QL:=by kernel_rfl
theorem acZ:az Tryz.prog 139=some QM:=by kernel_rfl
theorem ac0:az Tryz.prog 140=some QN:=by kernel_rfl
theorem ac1:az Tryz.prog 141=some QO:=by kernel_rfl
theorem ac2:az Tryz.prog 142=some QP:=by kernel_rfl
theorem ac3:az Tryz.prog 143=some QQ:=by kernel_rfl
theorem ac4:az Tryz.prog 144=some QR:=by kernel_rfl
theorem ac5:az Tryz.prog 146=some QS:=by kernel_rfl
theorem ac6:az Tryz.prog 147=some QT:=by kernel_rfl
theorem ac7:az Tryz.prog 148=some QU:=by kernel_rfl
theorem ac8:az Tryz.prog 149=some QV:=by kernel_rfl
theorem ac9:az Tryz.prog 150=some QW:=by kernel_rfl
theorem ac_:az Tryz.prog 151=some QX:=by kernel_rfl
theorem ac':az Tryz.prog 152=some QY:=by kernel_rfl
theorem ada:az Tryz.prog 153=some QZ:=by kernel_rfl
theorem adb:az Tryz.prog 155=some Q0:=by kernel_rfl
theorem ade:az Tryz.prog 157=some Q1:=by kernel_rfl
theorem adf:az Tryz.prog 158=some Q2:=by kernel_rfl
theorem adg:az Tryz.prog 159=some Q3:=by kernel_rfl
theorem adh:az Tryz.prog 160=some Q4:=by kernel_rfl
theorem adi:az Tryz.prog 161=some Q5:=by kernel_rfl
theorem adj:az Tryz.prog 162=some Q6:=by kernel_rfl
theorem adk:az Tryz.prog 163=some Q7:=by kernel_rfl
theorem adl:az Tryz.prog 164=some Q8:=by kernel_rfl
theorem adm:az Tryz.prog 165=some Q9:=by kernel_rfl
theorem adn:az Tryz.prog 166=some Q_:=by kernel_rfl
theorem ado:az Tryz.prog 167=some Re:=by kernel_rfl
theorem adp:az Tryz.prog 168=some Rf:=by kernel_rfl
theorem adq:az Tryz.prog 170=some Rg:=by kernel_rfl
theorem adr:az Tryz.prog 171=some Rh:=by kernel_rfl
theorem ads:az Tryz.prog 172=some Ri:=by kernel_rfl
theorem adt:az Tryz.prog 173=some Rj:=by kernel_rfl
theorem adu:az Tryz.prog 174=some Rk:=by kernel_rfl
theorem adv:az Tryz.prog 175=some Rl:=by kernel_rfl
theorem adw:az Tryz.prog 176=some Rm:=by kernel_rfl
theorem adx:az Tryz.prog 177=some Ro:=by kernel_rfl
theorem ady:az Tryz.prog 178=some Rp:=by kernel_rfl
theorem adz:az Tryz.prog 179=some Rq:=by kernel_rfl
theorem adA:az Tryz.prog 180=some Rr:=by kernel_rfl
theorem adB:az Tryz.prog 181=some Rt:=by kernel_rfl
theorem adC:az Tryz.prog 182=some Ru:=by kernel_rfl
theorem adD:az Tryz.prog 183=some Rv:=by kernel_rfl
theorem adE:az Tryz.prog 185=some Rw:=by kernel_rfl
theorem adF:az Tryz.prog 186=some Rx:=by kernel_rfl
theorem adG:az Tryz.prog 187=some Ry:=by kernel_rfl
theorem adH:az Tryz.prog 189=some Rz:=by kernel_rfl
theorem adI:az Tryz.prog 190=some RA:=by kernel_rfl
theorem adJ:az Tryz.prog 191=some RB:=by kernel_rfl
theorem adK:az Tryz.prog 192=some RC:=by kernel_rfl
theorem adL:az Tryz.prog 193=some RD:=by kernel_rfl
theorem adM:az Tryz.prog 194=some RE:=by kernel_rfl
theorem adN:az Tryz.prog 195=some RF:=by kernel_rfl
theorem adO:az Tryz.prog 196=some RG:=by kernel_rfl
theorem adP:az Tryz.prog 197=some RH:=by kernel_rfl
theorem adQ:az Tryz.prog 198=some RI:=by kernel_rfl
theorem adR:az Tryz.prog 199=some RJ:=by kernel_rfl
theorem adS:az Tryz.prog 200=some RK:=by kernel_rfl
theorem adT:az Tryz.prog 201=some RL:=by kernel_rfl
theorem adU:az Tryz.prog 203=some RM:=by kernel_rfl
theorem adV:az Tryz.prog 204=some RN:=by kernel_rfl
theorem adW:az Tryz.prog 206=some RO:=by kernel_rfl
theorem adX:az Tryz.prog 207=some RQ:=by kernel_rfl
theorem adY:az Tryz.prog 208=some RS:=by kernel_rfl
theorem adZ:az Tryz.prog 209=some RT:=by kernel_rfl
theorem ad0:az Tryz.prog 210=some RU:=by kernel_rfl
theorem ad1:az Tryz.prog 211=some RV:=by kernel_rfl
theorem ad2:az Tryz.prog 212=some RW:=by kernel_rfl
theorem ad3:az Tryz.prog 213=some RX:=by kernel_rfl
theorem ad4:az Tryz.prog 214=some RY:=by kernel_rfl
theorem ad5:az Tryz.prog 215=some RZ:=by kernel_rfl
theorem ad6:az Tryz.prog 216=some R4:=by kernel_rfl
theorem ad7:az Tryz.prog 218=some R5:=by kernel_rfl
theorem ad8:az Tryz.prog 219=some R6:=by kernel_rfl
theorem ad9:az Tryz.prog 221=some R7:=by kernel_rfl
theorem ad_:az Tryz.prog 222=some R8:=by kernel_rfl
theorem ad':az Tryz.prog 223=some R9:=by kernel_rfl
theorem aea:az Tryz.prog 224=some R_:=by kernel_rfl
theorem aeb:az Tryz.prog 225=some Sa:=by kernel_rfl
theorem aec:az Tryz.prog 226=some Sb:=by kernel_rfl
theorem aed:az Tryz.prog 228=some Sc:=by kernel_rfl
theorem aee:az Tryz.prog 229=some Sd:=by kernel_rfl
theorem aef:az Tryz.prog 231=some Se:=by kernel_rfl
theorem aeg:az Tryz.prog 233=some Sf:=by kernel_rfl
theorem aeh:az Tryz.prog 234=some Sg:=by kernel_rfl
theorem aei:az Tryz.prog 235=some Si:=by kernel_rfl
theorem aej:az Tryz.prog 236=some Sj:=by kernel_rfl
theorem aek:az Tryz.prog 237=some Sk:=by kernel_rfl
theorem ael:az Tryz.prog 238=some Sl:=by kernel_rfl
theorem aem:az Tryz.prog 239=some Sm:=by kernel_rfl
theorem aen:az Tryz.prog 240=some Sn:=by kernel_rfl
theorem aeo:az Tryz.prog 241=some Sq:=by kernel_rfl
theorem aep:az Tryz.prog 242=some Sr:=by kernel_rfl
theorem aeq:az Tryz.prog 244=some Ss:=by kernel_rfl
theorem aer:az Tryz.prog 245=some Su:=by kernel_rfl
theorem aes:az Tryz.prog 246=some Sv:=by kernel_rfl
theorem aet:az Tryz.prog 247=some Sw:=by kernel_rfl
theorem aeu:az Tryz.prog 248=some Sx:=by kernel_rfl
theorem aev:az Tryz.prog 249=some Sy:=by kernel_rfl
theorem aew:az Tryz.prog 250=some Sz:=by kernel_rfl
theorem aex:az Tryz.prog 251=some SA:=by kernel_rfl
theorem aey:az Tryz.prog 253=some SB:=by kernel_rfl
theorem aez:az Tryz.prog 254=some SC:=by kernel_rfl
theorem aeA:az Tryz.prog 255=some SD:=by kernel_rfl
theorem aeB:az Tryz.prog 257=some SE:=by kernel_rfl
theorem aeC:az Tryz.prog 258=some SF:=by kernel_rfl
theorem aeD:az Tryz.prog 259=some SG:=by kernel_rfl
theorem aeE:az Tryz.prog 260=some SH:=by kernel_rfl
theorem aeF:az Tryz.prog 261=some SI:=by kernel_rfl
theorem aeG:az Tryz.prog 262=some SJ:=by kernel_rfl
theorem aeH:az Tryz.prog 263=some SK:=by kernel_rfl
theorem aeI:az Tryz.prog 264=some SL:=by kernel_rfl
theorem aeJ:az Tryz.prog 265=some SM:=by kernel_rfl
theorem aeK:az Tryz.prog 266=some SN:=by kernel_rfl
theorem aeL:az Tryz.prog 267=some SO:=by kernel_rfl
theorem aeM:az Tryz.prog 269=some SP:=by kernel_rfl
theorem aeN:az Tryz.prog 270=some SQ:=by kernel_rfl
theorem aeO:az Tryz.prog 271=some SR:=by kernel_rfl
theorem aeP:az Tryz.prog 272=some SS:=by kernel_rfl
theorem aeQ:az Tryz.prog 273=some SU:=by kernel_rfl
theorem aeR:az Tryz.prog 274=some SV:=by kernel_rfl
theorem aeS:az Tryz.prog 275=some SX:=by kernel_rfl
theorem aeT:az Tryz.prog 276=some SY:=by kernel_rfl
theorem aeU:az Tryz.prog 277=some SZ:=by kernel_rfl
theorem aeV:az Tryz.prog 278=some S0:=by kernel_rfl
theorem aeW:az Tryz.prog 279=some S1:=by kernel_rfl
theorem aeX:az Tryz.prog 280=some S2:=by kernel_rfl
theorem aeY:az Tryz.prog 281=some S3:=by kernel_rfl
theorem aeZ:az Tryz.prog 282=some S4:=by kernel_rfl
theorem ae0:az Tryz.prog 283=some S5:=by kernel_rfl
theorem ae1:az Tryz.prog 284=some S6:=by kernel_rfl
theorem ae2:az Tryz.prog 285=some S7:=by kernel_rfl
theorem ae3:az Tryz.prog 286=some S8:=by kernel_rfl
theorem ae4:az Tryz.prog 287=some S9:=by kernel_rfl
theorem ae5:az Tryz.prog 288=some S_:=by kernel_rfl
theorem ae6:az Tryz.prog 289=some S':=by kernel_rfl
theorem ae7:az Tryz.prog 290=some Ta:=by kernel_rfl
theorem ae8:az Tryz.prog 291=some Tb:=by kernel_rfl
theorem ae9:az Tryz.prog 292=some Tc:=by kernel_rfl
theorem ae_:az Tryz.prog 293=some Td:=by kernel_rfl
theorem ae':az Tryz.prog 294=some Te:=by kernel_rfl
theorem afa:az Tryz.prog 296=some Tf:=by kernel_rfl
theorem afb:az Tryz.prog 298=some Tg:=by kernel_rfl
theorem afc:az Tryz.prog 299=some Th:=by kernel_rfl
theorem afd:az Tryz.prog 300=some Ti:=by kernel_rfl
theorem afe:az Tryz.prog 301=some Tj:=by kernel_rfl
theorem aff:az Tryz.prog 302=some Tk:=by kernel_rfl
theorem afg:az Tryz.prog 303=some Tl:=by kernel_rfl
theorem afh:az Tryz.prog 304=some Tm:=by kernel_rfl
theorem afi:az Tryz.prog 305=some Tn:=by kernel_rfl
theorem afj:az Tryz.prog 306=some To:=by kernel_rfl
theorem afk:az Tryz.prog 307=some Tp:=by kernel_rfl
theorem afl:az Tryz.prog 308=some Tq:=by kernel_rfl
theorem afm:az Tryz.prog 309=some Tr:=by kernel_rfl
theorem afn:az Tryz.prog 310=some Ts:=by kernel_rfl
theorem afo:az Tryz.prog 311=some Tt:=by kernel_rfl
theorem afp:az Tryz.prog 312=some Tu:=by kernel_rfl
theorem afq:az Tryz.prog 313=some Tv:=by kernel_rfl
theorem afr:az Tryz.prog 314=some Tw:=by kernel_rfl
theorem afs:az Tryz.prog 315=some Tx:=by kernel_rfl
theorem aft:az Tryz.prog 316=some Ty:=by kernel_rfl
theorem afu:az Tryz.prog 317=some Tz:=by kernel_rfl
theorem afv:az Tryz.prog 318=some TA:=by kernel_rfl
theorem afw:az Tryz.prog 319=some TB:=by kernel_rfl
theorem afx:az Tryz.prog 320=some TC:=by kernel_rfl
theorem afy:az Tryz.prog 322=some TD:=by kernel_rfl
theorem afz:az Tryz.prog 323=some TE:=by kernel_rfl
theorem afA:az Tryz.prog 324=some TF:=by kernel_rfl
theorem afB:az Tryz.prog 325=some TG:=by kernel_rfl
theorem afC:az Tryz.prog 326=some TH:=by kernel_rfl
theorem afD:az Tryz.prog 327=some TI:=by kernel_rfl
theorem afE:az Tryz.prog 328=some TJ:=by kernel_rfl
theorem afF:az Tryz.prog 329=some TK:=by kernel_rfl
theorem afG:az Tryz.prog 330=some TL:=by kernel_rfl
theorem afH:az Tryz.prog 331=some TM:=by kernel_rfl
theorem afI:az Tryz.prog 332=some TN:=by kernel_rfl
theorem afJ:az Tryz.prog 333=some TO:=by kernel_rfl
theorem afK:az Tryz.prog 334=some TP:=by kernel_rfl
theorem afL:az Tryz.prog 335=some TQ:=by kernel_rfl
theorem afM:az Tryz.prog 336=some TR:=by kernel_rfl
theorem afN:az Tryz.prog 337=some TS:=by kernel_rfl
theorem afO:az Tryz.prog 338=some TU:=by kernel_rfl
theorem afP:az Tryz.prog 339=some TV:=by kernel_rfl
theorem afQ:az Tryz.prog 340=some TW:=by kernel_rfl
theorem afR:az Tryz.prog 341=some TX:=by kernel_rfl
theorem afS:az Tryz.prog 342=some TY:=by kernel_rfl
theorem afT:az Tryz.prog 343=some TZ:=by kernel_rfl
theorem afU:az Tryz.prog 344=some T0:=by kernel_rfl
theorem afV:az Tryz.prog 345=some T1:=by kernel_rfl
theorem afW:az Tryz.prog 346=some T2:=by kernel_rfl
theorem afX:az Tryz.prog 347=some T3:=by kernel_rfl
theorem afY:az Tryz.prog 353=some T4:=by kernel_rfl
theorem afZ:az Tryz.prog 356=some T5:=by kernel_rfl
theorem af0:az Tryz.prog 357=some T6:=by kernel_rfl
def tt:TT:=[(1,OS),(2,tN),(3,OT),(4,OU),(5,OV),(9,OW),(12,OX),(21,OY),(22,OZ),(23,O0),(24,O1),(25,O2),(26,O3),(27,O4),(28,O5),(29,O6),(30,O7),(31,O8),(32,O9),(33,O_),(34,O'),(35,Pa),(36,Pb),(37,Pc),(38,Pd),(39,Pe),(40,Pf),(41,Pg),(42,Pj),(43,Pk),(44,Pl),(46,Pm),(47,Pn),(49,Po),(50,Pp),(51,Pq),(52,Pr),(53,Ps),(54,Pt),(55,Pu),(57,Pv),(58,Pw),(59,Px),(60,Py),(61,Pz),(62,PA),(63,PB),(64,PC),(65,PD),(66,PE),(67,PF),(68,PG),(69,PH),(70,PI),(71,PJ),(72,PK),(73,PL),(74,PM),(75,PN),(76,PO),(77,PQ),(79,PR),(80,PS),(82,PU),(83,PV),(84,PW),(86,PX),(87,PY),(88,PZ),(89,P0),(90,P1),(91,P2),(92,P3),(93,P4),(94,P5),(95,P6),(96,P7),(97,P8),(98,P9),(99,Qa),(100,Qb),(101,Qc),(102,Qd),(104,Qe),(105,Qf),(106,Qg),(107,Qh),(108,Qi),(109,Qj),(111,Qk),(112,Ql),(113,Qm),(114,Qn),(115,Qo),(116,Qp),(117,Qq),(118,Qr),(119,Qs),(120,Qt),(121,Qu),(122,Qv),(123,Qw),(124,Qx),(125,Qy),(126,Qz),(127,QA),(128,QB),(129,QC),(130,QD),(131,QE),(132,QF),(133,QG),(134,QH),(135,QI),(136,QJ),(137,QK),(138,QL),(139,QM),(140,QN),(141,QO),(142,QP),(143,QQ),(144,QR),(146,QS),(147,QT),(148,QU),(149,QV),(150,QW),(151,QX),(152,QY),(153,QZ),(155,Q0),(157,Q1),(158,Q2),(159,Q3),(160,Q4),(161,Q5),(162,Q6),(163,Q7),(164,Q8),(165,Q9),(166,Q_),(167,Re),(168,Rf),(170,Rg),(171,Rh),(172,Ri),(173,Rj),(174,Rk),(175,Rl),(176,Rm),(177,Ro),(178,Rp),(179,Rq),(180,Rr),(181,Rt),(182,Ru),(183,Rv),(185,Rw),(186,Rx),(187,Ry),(189,Rz),(190,RA),(191,RB),(192,RC),(193,RD),(194,RE),(195,RF),(196,RG),(197,RH),(198,RI),(199,RJ),(200,RK),(201,RL),(203,RM),(204,RN),(206,RO),(207,RQ),(208,RS),(209,RT),(210,RU),(211,RV),(212,RW),(213,RX),(214,RY),(215,RZ),(216,R4),(218,R5),(219,R6),(221,R7),(222,R8),(223,R9),(224,R_),(225,Sa),(226,Sb),(228,Sc),(229,Sd),(231,Se),(233,Sf),(234,Sg),(235,Si),(236,Sj),(237,Sk),(238,Sl),(239,Sm),(240,Sn),(241,Sq),(242,Sr),(244,Ss),(245,Su),(246,Sv),(247,Sw),(248,Sx),(249,Sy),(250,Sz),(251,SA),(253,SB),(254,SC),(255,SD),(257,SE),(258,SF),(259,SG),(260,SH),(261,SI),(262,SJ),(263,SK),(264,SL),(265,SM),(266,SN),(267,SO),(269,SP),(270,SQ),(271,SR),(272,SS),(273,SU),(274,SV),(275,SX),(276,SY),(277,SZ),(278,S0),(279,S1),(280,S2),(281,S3),(282,S4),(283,S5),(284,S6),(285,S7),(286,S8),(287,S9),(288,S_),(289,S'),(290,Ta),(291,Tb),(292,Tc),(293,Td),(294,Te),(296,Tf),(298,Tg),(299,Th),(300,Ti),(301,Tj),(302,Tk),(303,Tl),(304,Tm),(305,Tn),(306,To),(307,Tp),(308,Tq),(309,Tr),(310,Ts),(311,Tt),(312,Tu),(313,Tv),(314,Tw),(315,Tx),(316,Ty),(317,Tz),(318,TA),(319,TB),(320,TC),(322,TD),(323,TE),(324,TF),(325,TG),(326,TH),(327,TI),(328,TJ),(329,TK),(330,TL),(331,TM),(332,TN),(333,TO),(334,TP),(335,TQ),(336,TR),(337,TS),(338,TU),(339,TV),(340,TW),(341,TX),(342,TY),(343,TZ),(344,T0),(345,T1),(346,T2),(347,T3),(353,T4),(356,T5),(357,T6)]
theorem ab:ff Tryz.prog tt:=aI aa6 (aI aa7 (aI JH (aI aa8 (aI aa9 (aI aa_ (aI aa' (aI aba (aI abb (aI abc (aI abd (aI abe (aI abf (aI abg (aI abh (aI abi (aI abj (aI abk (aI abl (aI abm (aI abn (aI abo (aI abp (aI abq (aI abr (aI abt (aI abu (aI abv (aI abw (aI abx (aI aby (aI abz (aI abA (aI abB (aI abC (aI abD (aI abE (aI abF (aI abG (aI abH (aI abI (aI abJ (aI abK (aI abL (aI abM (aI abN (aI abO (aI abP (aI abQ (aI abR (aI abS (aI abT (aI abU (aI abV (aI abW (aI abX (aI abY (aI abZ (aI ab0 (aI ab1 (aI ab2 (aI ab3 (aI ab4 (aI ab5 (aI ab6 (aI ab7 (aI ab8 (aI ab9 (aI ab_ (aI ab' (aI aca (aI acb (aI acd (aI ace (aI acf (aI acg (aI ach (aI aci (aI acj (aI ack (aI acm (aI acn (aI aco (aI acp (aI acq (aI acr (aI acu (aI acv (aI acw (aI acx (aI acy (aI acz (aI acA (aI acB (aI acC (aI acD (aI acE (aI acF (aI acG (aI acH (aI acI (aI acJ (aI acK (aI acL (aI acM (aI acN (aI acO (aI acP (aI acQ (aI acR (aI acS (aI acT (aI acU (aI acV (aI acW (aI acX (aI acY (aI acZ (aI ac0 (aI ac1 (aI ac2 (aI ac3 (aI ac4 (aI ac5 (aI ac6 (aI ac7 (aI ac8 (aI ac9 (aI ac_ (aI ac' (aI ada (aI adb (aI ade (aI adf (aI adg (aI adh (aI adi (aI adj (aI adk (aI adl (aI adm (aI adn (aI ado (aI adp (aI adq (aI adr (aI ads (aI adt (aI adu (aI adv (aI adw (aI adx (aI ady (aI adz (aI adA (aI adB (aI adC (aI adD (aI adE (aI adF (aI adG (aI adH (aI adI (aI adJ (aI adK (aI adL (aI adM (aI adN (aI adO (aI adP (aI adQ (aI adR (aI adS (aI adT (aI adU (aI adV (aI adW (aI adX (aI adY (aI adZ (aI ad0 (aI ad1 (aI ad2 (aI ad3 (aI ad4 (aI ad5 (aI ad6 (aI ad7 (aI ad8 (aI ad9 (aI ad_ (aI ad' (aI aea (aI aeb (aI aec (aI aed (aI aee (aI aef (aI aeg (aI aeh (aI aei (aI aej (aI aek (aI ael (aI aem (aI aen (aI aeo (aI aep (aI aeq (aI aer (aI aes (aI aet (aI aeu (aI aev (aI aew (aI aex (aI aey (aI aez (aI aeA (aI aeB (aI aeC (aI aeD (aI aeE (aI aeF (aI aeG (aI aeH (aI aeI (aI aeJ (aI aeK (aI aeL (aI aeM (aI aeN (aI aeO (aI aeP (aI aeQ (aI aeR (aI aeS (aI aeT (aI aeU (aI aeV (aI aeW (aI aeX (aI aeY (aI aeZ (aI ae0 (aI ae1 (aI ae2 (aI ae3 (aI ae4 (aI ae5 (aI ae6 (aI ae7 (aI ae8 (aI ae9 (aI ae_ (aI ae' (aI afa (aI afb (aI afc (aI afd (aI afe (aI aff (aI afg (aI afh (aI afi (aI afj (aI afk (aI afl (aI afm (aI afn (aI afo (aI afp (aI afq (aI afr (aI afs (aI aft (aI afu (aI afv (aI afw (aI afx (aI afy (aI afz (aI afA (aI afB (aI afC (aI afD (aI afE (aI afF (aI afG (aI afH (aI afI (aI afJ (aI afK (aI afL (aI afM (aI afN (aI afO (aI afP (aI afQ (aI afR (aI afS (aI afT (aI afU (aI afV (aI afW (aI afX (aI afY (aI afZ (aI af0 (aaf _)))))))))))))))))))))))))))))))))))))))))))))))))))))))))))))))))))))))))))))))))))))))))))))))))))))))))))))))))))))))))))))))))))))))))))))))))))))))))))))))))))))))))))))))))))))))))))))))))))))))))))))))))))))))))))))))))))))))))))))))))))))))))))))))))))))))))))))))))))))))))))))))))))))))))))))))))))))
theorem nd {p:Prop}:(false=true)→p:=fun h=>by cases h
theorem bX:Tryz.prog.follows .mixedOrders=true:=by kernel_rfl
theorem fn5:bf Tryz.prog 5:=⟨_,Tryz.func5,by kernel_rfl,rfl⟩
theorem FR:bf Tryz.prog 7:=⟨_,Tryz.func7,by kernel_rfl,rfl⟩
theorem yF:bf Tryz.prog 14:=⟨_,Tryz.func14,by kernel_rfl,rfl⟩
theorem FT:bf Tryz.prog 17:=⟨_,Tryz.func17,by kernel_rfl,rfl⟩
theorem JI:bf Tryz.prog 18:=⟨_,Tryz.func18,by kernel_rfl,rfl⟩
theorem T7:bf Tryz.prog 19:=⟨_,Tryz.func19,by kernel_rfl,rfl⟩
theorem JJ:bf Tryz.prog 20:=⟨_,Tryz.func20,by kernel_rfl,rfl⟩
theorem af2:bf Tryz.prog 21:=⟨_,Tryz.func21,by kernel_rfl,rfl⟩
theorem tQ:bf Tryz.prog 22:=⟨_,Tryz.func22,by kernel_rfl,rfl⟩
theorem BS:bf Tryz.prog 23:=⟨_,Tryz.func23,by kernel_rfl,rfl⟩
theorem af3:bf Tryz.prog 24:=⟨_,Tryz.func24,by kernel_rfl,rfl⟩
theorem T8:bf Tryz.prog 26:=⟨_,Tryz.func26,by kernel_rfl,rfl⟩
theorem af4:bf Tryz.prog 28:=⟨_,Tryz.func28,by kernel_rfl,rfl⟩
theorem af5:bf Tryz.prog 29:=⟨_,Tryz.func29,by kernel_rfl,rfl⟩
theorem af6:bf Tryz.prog 30:=⟨_,Tryz.func30,by kernel_rfl,rfl⟩
theorem T9:bf Tryz.prog 31:=⟨_,Tryz.func31,by kernel_rfl,rfl⟩
theorem af7:bf Tryz.prog 33:=⟨_,Tryz.func33,by kernel_rfl,rfl⟩
theorem FU:bf Tryz.prog 44:=⟨_,Tryz.func44,by kernel_rfl,rfl⟩
theorem af8:bf Tryz.prog 45:=⟨_,Tryz.func45,by kernel_rfl,rfl⟩
theorem yG:bf Tryz.prog 46:=⟨_,Tryz.func46,by kernel_rfl,rfl⟩
theorem vN:bf Tryz.prog 47:=⟨_,Tryz.func47,by kernel_rfl,rfl⟩
theorem T_:bf Tryz.prog 48:=⟨_,Tryz.func48,by kernel_rfl,rfl⟩
theorem yH:bf Tryz.prog 51:=⟨_,Tryz.func51,by kernel_rfl,rfl⟩
theorem af9:bf Tryz.prog 53:=⟨_,Tryz.func53,by kernel_rfl,rfl⟩
theorem BT:bf Tryz.prog 54:=⟨_,Tryz.func54,by kernel_rfl,rfl⟩
theorem yI:bf Tryz.prog 56:=⟨_,Tryz.func56,by kernel_rfl,rfl⟩
theorem af_:bf Tryz.prog 59:=⟨_,Tryz.func59,by kernel_rfl,rfl⟩
theorem T':bf Tryz.prog 60:=⟨_,Tryz.func60,by kernel_rfl,rfl⟩
theorem af':bf Tryz.prog 61:=⟨_,Tryz.func61,by kernel_rfl,rfl⟩
theorem aga:bf Tryz.prog 62:=⟨_,Tryz.func62,by kernel_rfl,rfl⟩
theorem agb:bf Tryz.prog 63:=⟨_,Tryz.func63,by kernel_rfl,rfl⟩
theorem agc:bf Tryz.prog 64:=⟨_,Tryz.func64,by kernel_rfl,rfl⟩
theorem agd:bf Tryz.prog 65:=⟨_,Tryz.func65,by kernel_rfl,rfl⟩
theorem JK:bf Tryz.prog 66:=⟨_,Tryz.func66,by kernel_rfl,rfl⟩
theorem age:bf Tryz.prog 67:=⟨_,Tryz.func67,by kernel_rfl,rfl⟩
theorem agf:bf Tryz.prog 68:=⟨_,Tryz.func68,by kernel_rfl,rfl⟩
theorem Ua:bf Tryz.prog 69:=⟨_,Tryz.func69,by kernel_rfl,rfl⟩
theorem agh:bf Tryz.prog 70:=⟨_,Tryz.func70,by kernel_rfl,rfl⟩
theorem agi:bf Tryz.prog 71:=⟨_,Tryz.func71,by kernel_rfl,rfl⟩
theorem agj:bf Tryz.prog 72:=⟨_,Tryz.func72,by kernel_rfl,rfl⟩
theorem agk:bf Tryz.prog 73:=⟨_,Tryz.func73,by kernel_rfl,rfl⟩
theorem agl:bf Tryz.prog 74:=⟨_,Tryz.func74,by kernel_rfl,rfl⟩
theorem BU:bf Tryz.prog 75:=⟨_,Tryz.func75,by kernel_rfl,rfl⟩
theorem JL:bf Tryz.prog 76:=⟨_,Tryz.func76,by kernel_rfl,rfl⟩
theorem agm:bf Tryz.prog 77:=⟨_,Tryz.func77,by kernel_rfl,rfl⟩
theorem JM:bf Tryz.prog 78:=⟨_,Tryz.func78,by kernel_rfl,rfl⟩
theorem agn:bf Tryz.prog 79:=⟨_,Tryz.func79,by kernel_rfl,rfl⟩
theorem FV:bf Tryz.prog 80:=⟨_,Tryz.func80,by kernel_rfl,rfl⟩
theorem Ub:bf Tryz.prog 85:=⟨_,Tryz.func85,by kernel_rfl,rfl⟩
theorem JN:bf Tryz.prog 86:=⟨_,Tryz.func86,by kernel_rfl,rfl⟩
theorem ago:bf Tryz.prog 87:=⟨_,Tryz.func87,by kernel_rfl,rfl⟩
theorem agp:bf Tryz.prog 89:=⟨_,Tryz.func89,by kernel_rfl,rfl⟩
theorem agq:bf Tryz.prog 90:=⟨_,Tryz.func90,by kernel_rfl,rfl⟩
theorem agr:bf Tryz.prog 91:=⟨_,Tryz.func91,by kernel_rfl,rfl⟩
theorem ags:bf Tryz.prog 92:=⟨_,Tryz.func92,by kernel_rfl,rfl⟩
theorem agt:bf Tryz.prog 93:=⟨_,Tryz.func93,by kernel_rfl,rfl⟩
theorem agu:bf Tryz.prog 94:=⟨_,Tryz.func94,by kernel_rfl,rfl⟩
theorem BV:bf Tryz.prog 95:=⟨_,Tryz.func95,by kernel_rfl,rfl⟩
theorem JO:bf Tryz.prog 96:=⟨_,Tryz.func96,by kernel_rfl,rfl⟩
theorem agv:bf Tryz.prog 98:=⟨_,Tryz.func98,by kernel_rfl,rfl⟩
theorem agw:bf Tryz.prog 99:=⟨_,Tryz.func99,by kernel_rfl,rfl⟩
theorem Uc:bf Tryz.prog 101:=⟨_,Tryz.func101,by kernel_rfl,rfl⟩
theorem agx:bf Tryz.prog 102:=⟨_,Tryz.func102,by kernel_rfl,rfl⟩
theorem Ud:bf Tryz.prog 103:=⟨_,Tryz.func103,by kernel_rfl,rfl⟩
theorem Ue:bf Tryz.prog 104:=⟨_,Tryz.func104,by kernel_rfl,rfl⟩
theorem agy:bf Tryz.prog 106:=⟨_,Tryz.func106,by kernel_rfl,rfl⟩
theorem agz:bf Tryz.prog 107:=⟨_,Tryz.func107,by kernel_rfl,rfl⟩
theorem agA:bf Tryz.prog 108:=⟨_,Tryz.func108,by kernel_rfl,rfl⟩
theorem Uf:bf Tryz.prog 109:=⟨_,Tryz.func109,by kernel_rfl,rfl⟩
theorem JP:bf Tryz.prog 110:=⟨_,Tryz.func110,by kernel_rfl,rfl⟩
theorem agB:bf Tryz.prog 111:=⟨_,Tryz.func111,by kernel_rfl,rfl⟩
theorem Ug:bf Tryz.prog 112:=⟨_,Tryz.func112,by kernel_rfl,rfl⟩
theorem Uh:bf Tryz.prog 113:=⟨_,Tryz.func113,by kernel_rfl,rfl⟩
theorem Ui:bf Tryz.prog 114:=⟨_,Tryz.func114,by kernel_rfl,rfl⟩
theorem agC:bf Tryz.prog 115:=⟨_,Tryz.func115,by kernel_rfl,rfl⟩
theorem agD:bf Tryz.prog 116:=⟨_,Tryz.func116,by kernel_rfl,rfl⟩
theorem FW:bf Tryz.prog 117:=⟨_,Tryz.func117,by kernel_rfl,rfl⟩
theorem agE:bf Tryz.prog 118:=⟨_,Tryz.func118,by kernel_rfl,rfl⟩
theorem agF:bf Tryz.prog 119:=⟨_,Tryz.func119,by kernel_rfl,rfl⟩
theorem Uj:bf Tryz.prog 120:=⟨_,Tryz.func120,by kernel_rfl,rfl⟩
theorem Uk:bf Tryz.prog 121:=⟨_,Tryz.func121,by kernel_rfl,rfl⟩
theorem FY:bf Tryz.prog 122:=⟨_,Tryz.func122,by kernel_rfl,rfl⟩
theorem agG:bf Tryz.prog 123:=⟨_,Tryz.func123,by kernel_rfl,rfl⟩
theorem Ul:bf Tryz.prog 124:=⟨_,Tryz.func124,by kernel_rfl,rfl⟩
theorem Um:bf Tryz.prog 125:=⟨_,Tryz.func125,by kernel_rfl,rfl⟩
theorem agH:bf Tryz.prog 126:=⟨_,Tryz.func126,by kernel_rfl,rfl⟩
theorem agI:bf Tryz.prog 127:=⟨_,Tryz.func127,by kernel_rfl,rfl⟩
theorem agJ:bf Tryz.prog 128:=⟨_,Tryz.func128,by kernel_rfl,rfl⟩
theorem agK:bf Tryz.prog 129:=⟨_,Tryz.func129,by kernel_rfl,rfl⟩
theorem Un:bf Tryz.prog 130:=⟨_,Tryz.func130,by kernel_rfl,rfl⟩
theorem agL:bf Tryz.prog 131:=⟨_,Tryz.func131,by kernel_rfl,rfl⟩
theorem Uo:bf Tryz.prog 132:=⟨_,Tryz.func132,by kernel_rfl,rfl⟩
theorem Up:bf Tryz.prog 133:=⟨_,Tryz.func133,by kernel_rfl,rfl⟩
theorem Uq:bf Tryz.prog 134:=⟨_,Tryz.func134,by kernel_rfl,rfl⟩
theorem Ur:bf Tryz.prog 135:=⟨_,Tryz.func135,by kernel_rfl,rfl⟩
theorem agM:bf Tryz.prog 136:=⟨_,Tryz.func136,by kernel_rfl,rfl⟩
theorem JQ:bf Tryz.prog 137:=⟨_,Tryz.func137,by kernel_rfl,rfl⟩
theorem Us:bf Tryz.prog 138:=⟨_,Tryz.func138,by kernel_rfl,rfl⟩
theorem F0:bf Tryz.prog 139:=⟨_,Tryz.func139,by kernel_rfl,rfl⟩
theorem vO:bf Tryz.prog 140:=⟨_,Tryz.func140,by kernel_rfl,rfl⟩
theorem BW:bf Tryz.prog 141:=⟨_,Tryz.func141,by kernel_rfl,rfl⟩
theorem agN:bf Tryz.prog 142:=⟨_,Tryz.func142,by kernel_rfl,rfl⟩
theorem agO:bf Tryz.prog 143:=⟨_,Tryz.func143,by kernel_rfl,rfl⟩
theorem yJ:bf Tryz.prog 144:=⟨_,Tryz.func144,by kernel_rfl,rfl⟩
theorem agP:bf Tryz.prog 147:=⟨_,Tryz.func147,by kernel_rfl,rfl⟩
theorem agQ:bf Tryz.prog 148:=⟨_,Tryz.func148,by kernel_rfl,rfl⟩
theorem agR:bf Tryz.prog 149:=⟨_,Tryz.func149,by kernel_rfl,rfl⟩
theorem agS:bf Tryz.prog 150:=⟨_,Tryz.func150,by kernel_rfl,rfl⟩
theorem agT:bf Tryz.prog 151:=⟨_,Tryz.func151,by kernel_rfl,rfl⟩
theorem agU:bf Tryz.prog 152:=⟨_,Tryz.func152,by kernel_rfl,rfl⟩
theorem Ut:bf Tryz.prog 153:=⟨_,Tryz.func153,by kernel_rfl,rfl⟩
theorem BX:bf Tryz.prog 154:=⟨_,Tryz.func154,by kernel_rfl,rfl⟩
theorem JR:bf Tryz.prog 155:=⟨_,Tryz.func155,by kernel_rfl,rfl⟩
theorem agV:bf Tryz.prog 156:=⟨_,Tryz.func156,by kernel_rfl,rfl⟩
theorem yK:bf Tryz.prog 157:=⟨_,Tryz.func157,by kernel_rfl,rfl⟩
theorem Uu:bf Tryz.prog 158:=⟨_,Tryz.func158,by kernel_rfl,rfl⟩
theorem F2:bf Tryz.prog 159:=⟨_,Tryz.func159,by kernel_rfl,rfl⟩
theorem agW:bf Tryz.prog 160:=⟨_,Tryz.func160,by kernel_rfl,rfl⟩
theorem Uv:bf Tryz.prog 161:=⟨_,Tryz.func161,by kernel_rfl,rfl⟩
theorem agX:bf Tryz.prog 162:=⟨_,Tryz.func162,by kernel_rfl,rfl⟩
theorem JS:bf Tryz.prog 163:=⟨_,Tryz.func163,by kernel_rfl,rfl⟩
theorem agY:bf Tryz.prog 164:=⟨_,Tryz.func164,by kernel_rfl,rfl⟩
theorem Uw:bf Tryz.prog 165:=⟨_,Tryz.func165,by kernel_rfl,rfl⟩
theorem Ux:bf Tryz.prog 166:=⟨_,Tryz.func166,by kernel_rfl,rfl⟩
theorem agZ:bf Tryz.prog 167:=⟨_,Tryz.func167,by kernel_rfl,rfl⟩
theorem ag0:bf Tryz.prog 168:=⟨_,Tryz.func168,by kernel_rfl,rfl⟩
theorem ag1:bf Tryz.prog 169:=⟨_,Tryz.func169,by kernel_rfl,rfl⟩
theorem ag2:bf Tryz.prog 170:=⟨_,Tryz.func170,by kernel_rfl,rfl⟩
theorem ag3:bf Tryz.prog 171:=⟨_,Tryz.func171,by kernel_rfl,rfl⟩
theorem JT:bf Tryz.prog 172:=⟨_,Tryz.func172,by kernel_rfl,rfl⟩
theorem Uy:bf Tryz.prog 173:=⟨_,Tryz.func173,by kernel_rfl,rfl⟩
theorem Uz:bf Tryz.prog 174:=⟨_,Tryz.func174,by kernel_rfl,rfl⟩
theorem ag4:bf Tryz.prog 175:=⟨_,Tryz.func175,by kernel_rfl,rfl⟩
theorem ag5:bf Tryz.prog 177:=⟨_,Tryz.func177,by kernel_rfl,rfl⟩
theorem ag6:bf Tryz.prog 178:=⟨_,Tryz.func178,by kernel_rfl,rfl⟩
theorem ag7:bf Tryz.prog 179:=⟨_,Tryz.func179,by kernel_rfl,rfl⟩
theorem UA:bf Tryz.prog 180:=⟨_,Tryz.func180,by kernel_rfl,rfl⟩
theorem JU:bf Tryz.prog 181:=⟨_,Tryz.func181,by kernel_rfl,rfl⟩
theorem ag8:bf Tryz.prog 182:=⟨_,Tryz.func182,by kernel_rfl,rfl⟩
theorem ag9:bf Tryz.prog 183:=⟨_,Tryz.func183,by kernel_rfl,rfl⟩
theorem ag_:bf Tryz.prog 184:=⟨_,Tryz.func184,by kernel_rfl,rfl⟩
theorem ag':bf Tryz.prog 185:=⟨_,Tryz.func185,by kernel_rfl,rfl⟩
theorem aha:bf Tryz.prog 186:=⟨_,Tryz.func186,by kernel_rfl,rfl⟩
theorem UB:bf Tryz.prog 187:=⟨_,Tryz.func187,by kernel_rfl,rfl⟩
theorem UC:bf Tryz.prog 188:=⟨_,Tryz.func188,by kernel_rfl,rfl⟩
theorem ahb:bf Tryz.prog 189:=⟨_,Tryz.func189,by kernel_rfl,rfl⟩
theorem ahc:bf Tryz.prog 190:=⟨_,Tryz.func190,by kernel_rfl,rfl⟩
theorem JV:bf Tryz.prog 191:=⟨_,Tryz.func191,by kernel_rfl,rfl⟩
theorem ahd:bf Tryz.prog 192:=⟨_,Tryz.func192,by kernel_rfl,rfl⟩
theorem ahe:bf Tryz.prog 193:=⟨_,Tryz.func193,by kernel_rfl,rfl⟩
theorem ahf:bf Tryz.prog 194:=⟨_,Tryz.func194,by kernel_rfl,rfl⟩
theorem UD:bf Tryz.prog 195:=⟨_,Tryz.func195,by kernel_rfl,rfl⟩
theorem UE:bf Tryz.prog 196:=⟨_,Tryz.func196,by kernel_rfl,rfl⟩
theorem ahg:bf Tryz.prog 197:=⟨_,Tryz.func197,by kernel_rfl,rfl⟩
theorem ahh:bf Tryz.prog 198:=⟨_,Tryz.func198,by kernel_rfl,rfl⟩
theorem ahi:bf Tryz.prog 199:=⟨_,Tryz.func199,by kernel_rfl,rfl⟩
theorem ahj:bf Tryz.prog 200:=⟨_,Tryz.func200,by kernel_rfl,rfl⟩
theorem BY:bf Tryz.prog 201:=⟨_,Tryz.func201,by kernel_rfl,rfl⟩
theorem ahk:bf Tryz.prog 202:=⟨_,Tryz.func202,by kernel_rfl,rfl⟩
theorem ahl:bf Tryz.prog 203:=⟨_,Tryz.func203,by kernel_rfl,rfl⟩
theorem UF:bf Tryz.prog 204:=⟨_,Tryz.func204,by kernel_rfl,rfl⟩
theorem ahm:bf Tryz.prog 205:=⟨_,Tryz.func205,by kernel_rfl,rfl⟩
theorem ahn:bf Tryz.prog 206:=⟨_,Tryz.func206,by kernel_rfl,rfl⟩
theorem aho:bf Tryz.prog 208:=⟨_,Tryz.func208,by kernel_rfl,rfl⟩
theorem UG:bf Tryz.prog 209:=⟨_,Tryz.func209,by kernel_rfl,rfl⟩
theorem ahp:bf Tryz.prog 210:=⟨_,Tryz.func210,by kernel_rfl,rfl⟩
theorem UH:bf Tryz.prog 211:=⟨_,Tryz.func211,by kernel_rfl,rfl⟩
theorem ahq:bf Tryz.prog 212:=⟨_,Tryz.func212,by kernel_rfl,rfl⟩
theorem ahr:bf Tryz.prog 213:=⟨_,Tryz.func213,by kernel_rfl,rfl⟩
theorem ahs:bf Tryz.prog 219:=⟨_,Tryz.func219,by kernel_rfl,rfl⟩
theorem aht:bf Tryz.prog 223:=⟨_,Tryz.func223,by kernel_rfl,rfl⟩
theorem F3:bf Tryz.prog 225:=⟨_,Tryz.func225,by kernel_rfl,rfl⟩
theorem ahu:bf Tryz.prog 226:=⟨_,Tryz.func226,by kernel_rfl,rfl⟩
end Go.Proofs.YtccnpbnokndeeaaGreatDoor
namespace Go.Proofs.YtccnpbnokndeeaaGreatDoor
open Go Go.Ab
def ct (n:Int):Prop:=-9223372036854775808≤n∧n≤9223372036854775807
theorem JW (n:Int):IntKind.i64.wrap n=if n%18446744073709551616≥9223372036854775808 then n%18446744073709551616 -18446744073709551616 else n%18446744073709551616:=by
 simp [IntKind.wrap,IntKind.signed,IntKind.bits]
theorem ahv (n:Int):IntKind.u64.wrap n=n%18446744073709551616:=by
 simp [IntKind.wrap,IntKind.signed,IntKind.bits]
theorem ahw {n:Int} (h:ct n):IntKind.i64.wrap n=n:=by
 unfold ct at h;rw [JW];split<;>omega
theorem ahx {n:Int} (h1:-9223372036854775808≤n) (h2:n≤9223372036854775807):IntKind.i64.wrap n=n:=ahw ⟨h1,h2⟩
theorem ahy (n:Int):ct (IntKind.i64.wrap n):=by unfold ct;rw [JW];split<;>omega
structure Sp where
 a:Int
 b:Int
 deriving DecidableEq
structure Bx where
 x:Sp
 y:Sp
 z:Sp
 deriving DecidableEq
structure Df where
 k:Int
 b:Bx
 deriving DecidableEq
def bC (s:Sp):AV:=.agg [I s.a,I s.b]
def vP (b:Bx):AV:=.agg [I b.x.a,I b.x.b,I b.y.a,I b.y.b,I b.z.a,I b.z.b]
def cq (d:Df):AV:=.agg [I d.k,I d.b.x.a,I d.b.x.b,I d.b.y.a,I d.b.y.b,I d.b.z.a,I d.b.z.b]
def Sp.ok (s:Sp):Prop:=ct s.a∧ct s.b
def Bx.ok (b:Bx):Prop:=b.x.ok∧b.y.ok∧b.z.ok
def Df.ok (d:Df):Prop:=ct d.k∧d.b.ok
theorem ahz {n:Int} (h:IntKind.i64.min≤n∧n≤IntKind.i64.max):ct n:=h
theorem UI {α:Type} {enc:α→AV} {ok:α→Prop}:∀{xs:List AV},(∀x,x∈xs→∃d,x=enc d∧ok d)→∃l:List α,xs=l.map enc∧∀d,d∈l→ok d
 |[],_=>⟨[],rfl,by simp⟩
 |x::xs,h=>by
  obtain⟨d,rfl,hd⟩:=h x (by simp);obtain⟨l,rfl,hl⟩:=UI (xs:=xs) fun y hy=>h y (by simp [hy])
  refine⟨d::l,rfl,?_⟩;intro e he;rcases List.mem_cons.1 he with rfl|he
  ·exact hd
  ·exact hl e he
theorem kp {cs:List AV} (h:c_ (.int .i64) cs):∃n,cs=[I n]∧ct n:=by
 rw [c_] at h;obtain⟨n,rfl,h⟩:=h;exact⟨n,rfl,ahz h⟩
def rk:Sh:=.struct [.int .i64,.int .i64]
def JX:Sh:=.struct [rk,rk,rk]
def BZ:Sh:=.struct [.int .i64,JX]
theorem JY {cs:List AV} (h:c_ rk cs):∃s:Sp,cs=[I s.a,I s.b]∧s.ok:=by
 unfold rk at h;rw [c_,dy] at h;obtain⟨x,y,rfl,h1,h2⟩:=h;rw [dy] at h2;obtain⟨y,z,rfl,h2,h3⟩:=h2;rw [dy] at h3;subst h3;obtain⟨a,rfl,ha⟩:=kp h1;obtain⟨b,rfl,hb⟩:=kp h2;exact⟨⟨a,b⟩,rfl,ha,hb⟩
theorem ahA {cs:List AV} (h:c_ JX cs):∃b:Bx,cs=[I b.x.a,I b.x.b,I b.y.a,I b.y.b,I b.z.a,I b.z.b]∧b.ok:=by
 unfold JX at h;rw [c_,dy] at h;obtain⟨_,y,rfl,h1,h2⟩:=h;rw [dy] at h2;obtain⟨_,z,rfl,h2,h3⟩:=h2;rw [dy] at h3;obtain⟨_,t,rfl,h3,h4⟩:=h3;rw [dy] at h4;subst h4;obtain⟨a,rfl,ha⟩:=JY h1;obtain⟨b,rfl,hb⟩:=JY h2;obtain⟨c,rfl,hc⟩:=JY h3;exact⟨⟨a,b,c⟩,rfl,ha,hb,hc⟩
theorem ahB {cs:List AV} (h:c_ BZ cs):∃d:Df,cs=[I d.k,I d.b.x.a,I d.b.x.b,I d.b.y.a,I d.b.y.b,I d.b.z.a,I d.b.z.b]∧d.ok:=by
 unfold BZ at h;rw [c_,dy] at h;obtain⟨_,y,rfl,h1,h2⟩:=h;rw [dy] at h2;obtain⟨_,z,rfl,h2,h3⟩:=h2;rw [dy] at h3;subst h3;obtain⟨k,rfl,hk⟩:=kp h1;obtain⟨b,rfl,hb⟩:=ahA h2;exact⟨⟨k,b⟩,rfl,hk,hb⟩
theorem of2 {s1 s2:Sh} {xs:List AV} (h:BE [s1,s2] xs):∃a1 a2,xs=[a1,a2]∧Of s1 a1∧Of s2 a2:=by
 match xs,h with
 |[a1,a2],h=>exact⟨a1,a2,rfl,h.1,h.2.1⟩
end Go.Proofs.YtccnpbnokndeeaaGreatDoor
namespace Go.Proofs.YtccnpbnokndeeaaGreatDoor
open Go Go.Ab
set_option maxRecDepth 20000
set_option maxHeartbeats 1000000
abbrev U (n:Int):Int:=IntKind.i64.wrap n
abbrev tR (n:Int):Int:=IntKind.u64.wrap n
abbrev F4 (n:Int):Int:=IntKind.u8.wrap n
abbrev yL (n:Int):AV:=.sc (.int .u64 n)
abbrev U8 (n:Int):AV:=.sc (.int .u8 n)
abbrev yM (k:IntKind) (a b:Int):Int:=a.fdiv (2^(min b.toNat k.bits))
abbrev an {α:Type} (enc:α→AV) (l:List α):AV:=.sl (l.map enc)
def gx {α:Type} (enc:α→AV) (a b:α):Bool:=yz (enc a).cells (enc b).cells
theorem ahD {cs:List AV} (h:c_ .bool cs):∃n,cs=[B n]∧True:=by
 rw [c_] at h;obtain⟨n,rfl⟩:=h;exact⟨n,rfl,trivial⟩
theorem ahE {cs:List AV} (h:c_ .str cs):∃s:ByteArray,cs=[S s]∧s.size≤9223372036854775807:=by
 rw [c_] at h;obtain⟨s,rfl,h1⟩:=h;exact⟨s,rfl,h1⟩
theorem JZ {fg:List AV} (h:c_ (.int .i64) fg):∃d,(Sh.int .i64).pack fg=I d∧ct d:=by
 obtain⟨n,rfl,h1⟩:=kp h;exact⟨n,rfl,h1⟩
theorem ahF {fg:List AV} (h:c_ BZ fg):∃d:Df,BZ.pack fg=cq d∧d.ok:=by
 obtain⟨s,rfl,h1⟩:=ahB h;exact⟨s,rfl,h1⟩
theorem yN {α:Type} {enc:α→AV} {ok:α→Prop} {e:Sh} (iS:∀fg,c_ e fg→∃d,e.pack fg=enc d∧ok d) {cs:List AV} (h:c_ (.slice e) cs):∃l:List α,cs=[an enc l]∧(l.length≤9223372036854775807∧∀d,d∈l→ok d):=by
 rw [c_] at h;obtain⟨xs,rfl,h1,h2⟩:=h
 obtain⟨l,rfl,h3⟩:=UI (enc:=enc) (ok:=ok) (xs:=xs) fun x hx=>by
  obtain⟨fg,rfl,hc⟩:=h2 x hx;exact iS fg hc
 exact⟨l,rfl,by rw [List.length_map] at h1;exact h1,h3⟩
theorem UJ {α:Type} {enc:α→AV} {ok:α→Prop} {s:Sh} (h:∀cs,c_ s cs→∃d,s.pack cs=enc d∧ok d) {a:AV} (ha:Of s a):∃d,a=enc d∧ok d:=by
 obtain⟨cs,rfl,hc⟩:=ha;exact h cs hc
structure aS where
 X:Int
 Y:Int
 deriving DecidableEq
def a7 (s:aS):AV:=.agg [I s.X,I s.Y]
def aS.ok (s:aS):Prop:=ct s.X∧ct s.Y
def vQ:Sh:=.struct [.int .i64,.int .i64]
theorem ahG {cs:List AV} (h:c_ vQ cs):∃s:aS,cs=[I s.X,I s.Y]∧s.ok:=by
 unfold vQ at h;rw [c_] at h;rw [dy] at h;obtain⟨_,_,rfl,q0,h⟩:=h;rw [dy] at h;obtain⟨_,_,rfl,q1,h⟩:=h;rw [dy] at h;subst h;obtain⟨s0,rfl,k0⟩:=kp q0;obtain⟨s1,rfl,k1⟩:=kp q1;exact⟨⟨s0,s1⟩,rfl,k0,k1⟩
structure dA where
 P_:aS
 Ok:Bool
 deriving DecidableEq
def cb (s:dA):AV:=.agg [I s.P_.X,I s.P_.Y,B s.Ok]
def dA.ok (s:dA):Prop:=s.P_.ok∧True
def yO:Sh:=.struct [vQ,.bool]
theorem ahH {cs:List AV} (h:c_ yO cs):∃s:dA,cs=[I s.P_.X,I s.P_.Y,B s.Ok]∧s.ok:=by
 unfold yO at h;rw [c_] at h;rw [dy] at h;obtain⟨_,_,rfl,q0,h⟩:=h;rw [dy] at h;obtain⟨_,_,rfl,q1,h⟩:=h;rw [dy] at h;subst h;obtain⟨s0,rfl,k0⟩:=ahG q0;obtain⟨s1,rfl,k1⟩:=ahD q1;exact⟨⟨s0,s1⟩,rfl,k0,k1⟩
theorem ahI {a:AV} (h:Of yO a):∃s:dA,a=cb s∧s.ok:=by
 obtain⟨cs,rfl,h⟩:=h;obtain⟨b,rfl,hb⟩:=ahH h;exact⟨b,rfl,hb⟩
theorem ahJ {fg:List AV} (h:c_ yO fg):∃d:dA,(yO).pack fg=cb d∧d.ok:=ahI ⟨fg,rfl,h⟩
structure cw where
 Z:Int
 Read:(List dA)
 deriving DecidableEq
def cN (s:cw):AV:=.agg [I s.Z,(an cb) s.Read]
def cw.ok (s:cw):Prop:=ct s.Z∧(s.Read.length≤9223372036854775807∧∀d,d∈s.Read→d.ok)
def yP:Sh:=.struct [.int .i64,.slice yO]
theorem ahK {cs:List AV} (h:c_ yP cs):∃s:cw,cs=[I s.Z,(an cb) s.Read]∧s.ok:=by
 unfold yP at h;rw [c_] at h;rw [dy] at h;obtain⟨_,_,rfl,q0,h⟩:=h;rw [dy] at h;obtain⟨_,_,rfl,q1,h⟩:=h;rw [dy] at h;subst h;obtain⟨s0,rfl,k0⟩:=kp q0;obtain⟨s1,rfl,k1⟩:=(yN (fun _=>ahJ)) q1;exact⟨⟨s0,s1⟩,rfl,k0,k1⟩
theorem ahL {a:AV} (h:Of yP a):∃s:cw,a=cN s∧s.ok:=by
 obtain⟨cs,rfl,h⟩:=h;obtain⟨b,rfl,hb⟩:=ahK h;exact⟨b,rfl,hb⟩
theorem ahM {fg:List AV} (h:c_ yP fg):∃d:cw,(yP).pack fg=cN d∧d.ok:=ahL ⟨fg,rfl,h⟩
structure eA where
 bM:(List cw)
 dm:(List Df)
 deriving DecidableEq
def rl (s:eA):AV:=.agg [(an cN) s.bM,(an cq) s.dm]
def eA.ok (s:eA):Prop:=(s.bM.length≤9223372036854775807∧∀d,d∈s.bM→d.ok)∧(s.dm.length≤9223372036854775807∧∀d,d∈s.dm→d.ok)
def J0:Sh:=.struct [.slice yP,.slice BZ]
theorem ahN {cs:List AV} (h:c_ J0 cs):∃s:eA,cs=[(an cN) s.bM,(an cq) s.dm]∧s.ok:=by
 unfold J0 at h;rw [c_] at h;rw [dy] at h;obtain⟨_,_,rfl,q0,h⟩:=h;rw [dy] at h;obtain⟨_,_,rfl,q1,h⟩:=h;rw [dy] at h;subst h;obtain⟨s0,rfl,k0⟩:=(yN (fun _=>ahM)) q0;obtain⟨s1,rfl,k1⟩:=(yN (fun _=>ahF)) q1;exact⟨⟨s0,s1⟩,rfl,k0,k1⟩
structure bh where
 Name:ByteArray
 fh:Int
 gg:Int
 fK:Int
 gP:Int
 bG:(List Int)
 dB:(List Int)
 deriving DecidableEq
def cL (s:bh):AV:=.agg [S s.Name,I s.fh,I s.gg,I s.fK,I s.gP,(an I) s.bG,(an I) s.dB]
def bh.ok (s:bh):Prop:=s.Name.size≤9223372036854775807∧ct s.fh∧ct s.gg∧ct s.fK∧ct s.gP∧(s.bG.length≤9223372036854775807∧∀d,d∈s.bG→ct d)∧(s.dB.length≤9223372036854775807∧∀d,d∈s.dB→ct d)
def yQ:Sh:=.struct [.str,.int .i64,.int .i64,.int .i64,.int .i64,.slice (.int .i64),.slice (.int .i64)]
theorem ahO {cs:List AV} (h:c_ yQ cs):∃s:bh,cs=[S s.Name,I s.fh,I s.gg,I s.fK,I s.gP,(an I) s.bG,(an I) s.dB]∧s.ok:=by
 unfold yQ at h;rw [c_] at h;rw [dy] at h;obtain⟨_,_,rfl,q0,h⟩:=h;rw [dy] at h;obtain⟨_,_,rfl,q1,h⟩:=h;rw [dy] at h;obtain⟨_,_,rfl,q2,h⟩:=h;rw [dy] at h;obtain⟨_,_,rfl,q3,h⟩:=h;rw [dy] at h;obtain⟨_,_,rfl,q4,h⟩:=h;rw [dy] at h;obtain⟨_,_,rfl,q5,h⟩:=h;rw [dy] at h;obtain⟨_,_,rfl,q6,h⟩:=h;rw [dy] at h;subst h;obtain⟨s0,rfl,k0⟩:=ahE q0;obtain⟨s1,rfl,k1⟩:=kp q1;obtain⟨s2,rfl,k2⟩:=kp q2;obtain⟨s3,rfl,k3⟩:=kp q3;obtain⟨s4,rfl,k4⟩:=kp q4;obtain⟨s5,rfl,k5⟩:=(yN (fun _=>JZ)) q5;obtain⟨s6,rfl,k6⟩:=(yN (fun _=>JZ)) q6;exact⟨⟨s0,s1,s2,s3,s4,s5,s6⟩,rfl,k0,k1,k2,k3,k4,k5,k6⟩
theorem ahP {a:AV} (h:Of yQ a):∃s:bh,a=cL s∧s.ok:=by
 obtain⟨cs,rfl,h⟩:=h;obtain⟨b,rfl,hb⟩:=ahO h;exact⟨b,rfl,hb⟩
theorem ahQ {fg:List AV} (h:c_ yQ fg):∃d:bh,(yQ).pack fg=cL d∧d.ok:=ahP ⟨fg,rfl,h⟩
structure cS where
 bj:Int
 Trim:Int
 dq:Int
 Step:Int
 deriving DecidableEq
def oJ (s:cS):AV:=.agg [I s.bj,I s.Trim,I s.dq,I s.Step]
def cS.ok (s:cS):Prop:=ct s.bj∧ct s.Trim∧ct s.dq∧ct s.Step
def J1:Sh:=.struct [.int .i64,.int .i64,.int .i64,.int .i64]
theorem ahR {cs:List AV} (h:c_ J1 cs):∃s:cS,cs=[I s.bj,I s.Trim,I s.dq,I s.Step]∧s.ok:=by
 unfold J1 at h;rw [c_] at h;rw [dy] at h;obtain⟨_,_,rfl,q0,h⟩:=h;rw [dy] at h;obtain⟨_,_,rfl,q1,h⟩:=h;rw [dy] at h;obtain⟨_,_,rfl,q2,h⟩:=h;rw [dy] at h;obtain⟨_,_,rfl,q3,h⟩:=h;rw [dy] at h;subst h;obtain⟨s0,rfl,k0⟩:=kp q0;obtain⟨s1,rfl,k1⟩:=kp q1;obtain⟨s2,rfl,k2⟩:=kp q2;obtain⟨s3,rfl,k3⟩:=kp q3;exact⟨⟨s0,s1,s2,s3⟩,rfl,k0,k1,k2,k3⟩
structure da where
 dF:Int
 cO:Int
 dE:Int
 deriving DecidableEq
def pB (s:da):AV:=.agg [I s.dF,I s.cO,I s.dE]
def da.ok (s:da):Prop:=ct s.dF∧ct s.cO∧ct s.dE
def J2:Sh:=.struct [.int .i64,.int .i64,.int .i64]
theorem ahS {cs:List AV} (h:c_ J2 cs):∃s:da,cs=[I s.dF,I s.cO,I s.dE]∧s.ok:=by
 unfold J2 at h;rw [c_] at h;rw [dy] at h;obtain⟨_,_,rfl,q0,h⟩:=h;rw [dy] at h;obtain⟨_,_,rfl,q1,h⟩:=h;rw [dy] at h;obtain⟨_,_,rfl,q2,h⟩:=h;rw [dy] at h;subst h;obtain⟨s0,rfl,k0⟩:=kp q0;obtain⟨s1,rfl,k1⟩:=kp q1;obtain⟨s2,rfl,k2⟩:=kp q2;exact⟨⟨s0,s1,s2⟩,rfl,k0,k1,k2⟩
structure me where
 Scan:eA
 dT:(List bh)
 dW:cS
 gy:da
 mN:Int
 mO:Int
 deriving DecidableEq
def F5 (s:me):AV:=.agg [(an cN) s.Scan.bM,(an cq) s.Scan.dm,(an cL) s.dT,I s.dW.bj,I s.dW.Trim,I s.dW.dq,I s.dW.Step,I s.gy.dF,I s.gy.cO,I s.gy.dE,I s.mN,I s.mO]
def me.ok (s:me):Prop:=s.Scan.ok∧(s.dT.length≤9223372036854775807∧∀d,d∈s.dT→d.ok)∧s.dW.ok∧s.gy.ok∧ct s.mN∧ct s.mO
def vS:Sh:=.struct [J0,.slice yQ,J1,J2,.int .i64,.int .i64]
theorem ahT {cs:List AV} (h:c_ vS cs):∃s:me,cs=[(an cN) s.Scan.bM,(an cq) s.Scan.dm,(an cL) s.dT,I s.dW.bj,I s.dW.Trim,I s.dW.dq,I s.dW.Step,I s.gy.dF,I s.gy.cO,I s.gy.dE,I s.mN,I s.mO]∧s.ok:=by
 unfold vS at h;rw [c_] at h;rw [dy] at h;obtain⟨_,_,rfl,q0,h⟩:=h;rw [dy] at h;obtain⟨_,_,rfl,q1,h⟩:=h;rw [dy] at h;obtain⟨_,_,rfl,q2,h⟩:=h;rw [dy] at h;obtain⟨_,_,rfl,q3,h⟩:=h;rw [dy] at h;obtain⟨_,_,rfl,q4,h⟩:=h;rw [dy] at h;obtain⟨_,_,rfl,q5,h⟩:=h;rw [dy] at h;subst h;obtain⟨s0,rfl,k0⟩:=ahN q0;obtain⟨s1,rfl,k1⟩:=(yN (fun _=>ahQ)) q1;obtain⟨s2,rfl,k2⟩:=ahR q2;obtain⟨s3,rfl,k3⟩:=ahS q3;obtain⟨s4,rfl,k4⟩:=kp q4;obtain⟨s5,rfl,k5⟩:=kp q5;exact⟨⟨s0,s1,s2,s3,s4,s5⟩,rfl,k0,k1,k2,k3,k4,k5⟩
theorem ahU {a:AV} (h:Of vS a):∃s:me,a=F5 s∧s.ok:=by
 obtain⟨cs,rfl,h⟩:=h;obtain⟨b,rfl,hb⟩:=ahT h;exact⟨b,rfl,hb⟩
theorem ahV {fg:List AV} (h:c_ vS fg):∃d:me,(vS).pack fg=F5 d∧d.ok:=ahU ⟨fg,rfl,h⟩
structure aJ where
 X:Sp
 Y:Sp
 deriving DecidableEq
def cP (s:aJ):AV:=.agg [I s.X.a,I s.X.b,I s.Y.a,I s.Y.b]
def aJ.ok (s:aJ):Prop:=s.X.ok∧s.Y.ok
def F6:Sh:=.struct [rk,rk]
structure bq where
 Kind:Int
 At:Int
 deriving DecidableEq
def aX (s:bq):AV:=.agg [I s.Kind,I s.At]
def bq.ok (s:bq):Prop:=ct s.Kind∧ct s.At
structure dR where
 Frame:aJ
 br:(List bq)
 deriving DecidableEq
def oK (s:dR):AV:=.agg [I s.Frame.X.a,I s.Frame.X.b,I s.Frame.Y.a,I s.Frame.Y.b,(an aX) s.br]
def dR.ok (s:dR):Prop:=s.Frame.ok∧(s.br.length≤9223372036854775807∧∀d,d∈s.br→d.ok)
structure J3 where
 ahW:Int
 Core:Int
 ahX:Int
 deriving DecidableEq
def J3.ok (s:J3):Prop:=ct s.ahW∧ct s.Core∧ct s.ahX
structure UK where
 Id:ByteArray
 Log:ByteArray
 ahY:ByteArray
 jW:Int
 dX:Bx
 ahZ:Int
 dm:(List Df)
 gP:Int
 Cell:J3
 apQ:Bool
 ah0:Int
 deriving DecidableEq
def UK.ok (s:UK):Prop:=s.Id.size≤9223372036854775807∧s.Log.size≤9223372036854775807∧s.ahY.size≤9223372036854775807∧ct s.jW∧s.dX.ok∧ct s.ahZ∧(s.dm.length≤9223372036854775807∧∀d,d∈s.dm→d.ok)∧ct s.gP∧s.Cell.ok∧True∧ct s.ah0
structure UL where
 Name:ByteArray
 ah1:Int
 ah2:Int
 ah3:Int
 Safe:Int
 ah4:Int
 ah5:Int
 ah6:Int
 ah7:Int
 ah8:Int
 ah9:Int
 ah_:Int
 Shrink:Int
 deriving DecidableEq
def UL.ok (s:UL):Prop:=s.Name.size≤9223372036854775807∧ct s.ah1∧ct s.ah2∧ct s.ah3∧ct s.Safe∧ct s.ah4∧ct s.ah5∧ct s.ah6∧ct s.ah7∧ct s.ah8∧ct s.ah9∧ct s.ah_∧ct s.Shrink
structure fL where
 Log:Int
 lj:Int
 rm:Int
 cO:Int
 Value:Int
 deriving DecidableEq
def ah' (s:fL):AV:=.agg [I s.Log,I s.lj,I s.rm,I s.cO,I s.Value]
def fL.ok (s:fL):Prop:=ct s.Log∧ct s.lj∧ct s.rm∧ct s.cO∧ct s.Value
structure fi where
 oL:Int
 Pattern:dR
 Value:Int
 deriving DecidableEq
def iF (s:fi):AV:=.agg [I s.oL,I s.Pattern.Frame.X.a,I s.Pattern.Frame.X.b,I s.Pattern.Frame.Y.a,I s.Pattern.Frame.Y.b,(an aX) s.Pattern.br,I s.Value]
def fi.ok (s:fi):Prop:=ct s.oL∧s.Pattern.ok∧ct s.Value
structure b7 where
 b6:Int
 Rows:(List Sp)
 deriving DecidableEq
def eM (s:b7):AV:=.agg [I s.b6,(an bC) s.Rows]
def b7.ok (s:b7):Prop:=ct s.b6∧(s.Rows.length≤9223372036854775807∧∀d,d∈s.Rows→d.ok)
structure aV where
 aT:Int
 cn:b7
 deriving DecidableEq
def cy (s:aV):AV:=.agg [I s.aT,I s.cn.b6,(an bC) s.cn.Rows]
def aV.ok (s:aV):Prop:=ct s.aT∧s.cn.ok
structure nK where
 gz:(List aV)
 dm:(List Df)
 dT:(List bh)
 dW:cS
 gy:da
 deriving DecidableEq
def J4 (s:nK):AV:=.agg [(an cy) s.gz,(an cq) s.dm,(an cL) s.dT,I s.dW.bj,I s.dW.Trim,I s.dW.dq,I s.dW.Step,I s.gy.dF,I s.gy.cO,I s.gy.dE]
def nK.ok (s:nK):Prop:=(s.gz.length≤9223372036854775807∧∀d,d∈s.gz→d.ok)∧(s.dm.length≤9223372036854775807∧∀d,d∈s.dm→d.ok)∧(s.dT.length≤9223372036854775807∧∀d,d∈s.dT→d.ok)∧s.dW.ok∧s.gy.ok
structure gQ where
 UM:Int
 jW:Int
 dX:Bx
 sr:Int
 deriving DecidableEq
def iG (s:gQ):AV:=.agg [I s.UM,I s.jW,I s.dX.x.a,I s.dX.x.b,I s.dX.y.a,I s.dX.y.b,I s.dX.z.a,I s.dX.z.b,I s.sr]
def gQ.ok (s:gQ):Prop:=ct s.UM∧ct s.jW∧s.dX.ok∧ct s.sr
structure J5 where
 kind:Int
 at_:Int
 aia:Int
 second:Int
 apR:Bool
 en:aJ
 leaf:Int
 aib:aJ
 apS:Bool
 aic:gQ
 deriving DecidableEq
def J5.ok (s:J5):Prop:=ct s.kind∧ct s.at_∧ct s.aia∧ct s.second∧True∧s.en.ok∧ct s.leaf∧s.aib.ok∧True∧s.aic.ok
structure UN where
 UO:(List aV)
 nL:(List Df)
 UP:(List bh)
 saw:cS
 aie:da
 length:Int
 nodes:(List J5)
 UQ:(List Int)
 UR:(List aJ)
 deriving DecidableEq
def UN.ok (s:UN):Prop:=(s.UO.length≤9223372036854775807∧∀d,d∈s.UO→d.ok)∧(s.nL.length≤9223372036854775807∧∀d,d∈s.nL→d.ok)∧(s.UP.length≤9223372036854775807∧∀d,d∈s.UP→d.ok)∧s.saw.ok∧s.aie.ok∧ct s.length∧(s.nodes.length≤9223372036854775807∧∀d,d∈s.nodes→d.ok)∧(s.UQ.length≤9223372036854775807∧∀d,d∈s.UQ→ct d)∧(s.UR.length≤9223372036854775807∧∀d,d∈s.UR→d.ok)
structure US where
 kerf:Int
 length:Int
 deriving DecidableEq
def US.ok (s:US):Prop:=ct s.kerf∧ct s.length
structure gA where
 pC:aJ
 jW:Int
 deriving DecidableEq
def eS (s:gA):AV:=.agg [I s.pC.X.a,I s.pC.X.b,I s.pC.Y.a,I s.pC.Y.b,I s.jW]
def gA.ok (s:gA):Prop:=s.pC.ok∧ct s.jW
structure de where
 fS:Int
 At:Int
 deriving DecidableEq
def iH (s:de):AV:=.agg [I s.fS,I s.At]
def de.ok (s:de):Prop:=ct s.fS∧ct s.At
def B0:Sh:=.struct [.int .i64,.int .i64]
structure cT where
 aT:Int
 bj:Int
 dq:Int
 cY:(List Int)
 eT:(List (List Int))
 dF:(List Int)
 cO:(List Int)
 deriving DecidableEq
def su (s:cT):AV:=.agg [I s.aT,I s.bj,I s.dq,(an I) s.cY,(an (an I)) s.eT,(an I) s.dF,(an I) s.cO]
def cT.ok (s:cT):Prop:=ct s.aT∧ct s.bj∧ct s.dq∧(s.cY.length≤9223372036854775807∧∀d,d∈s.cY→ct d)∧(s.eT.length≤9223372036854775807∧∀d,d∈s.eT→(d.length≤9223372036854775807∧∀d1,d1∈d→ct d1))∧(s.dF.length≤9223372036854775807∧∀d,d∈s.dF→ct d)∧(s.cO.length≤9223372036854775807∧∀d,d∈s.cO→ct d)
structure nM where
 gz:(List aV)
 dm:(List Df)
 dT:(List bh)
 Pattern:dR
 dW:cS
 gy:da
 deriving DecidableEq
def J6 (s:nM):AV:=.agg [(an cy) s.gz,(an cq) s.dm,(an cL) s.dT,I s.Pattern.Frame.X.a,I s.Pattern.Frame.X.b,I s.Pattern.Frame.Y.a,I s.Pattern.Frame.Y.b,(an aX) s.Pattern.br,I s.dW.bj,I s.dW.Trim,I s.dW.dq,I s.dW.Step,I s.gy.dF,I s.gy.cO,I s.gy.dE]
def nM.ok (s:nM):Prop:=(s.gz.length≤9223372036854775807∧∀d,d∈s.gz→d.ok)∧(s.dm.length≤9223372036854775807∧∀d,d∈s.dm→d.ok)∧(s.dT.length≤9223372036854775807∧∀d,d∈s.dT→d.ok)∧s.Pattern.ok∧s.dW.ok∧s.gy.ok
structure jn where
 z_:Sp
 B1:Int
 deriving DecidableEq
def mP (s:jn):AV:=.agg [I s.z_.a,I s.z_.b,I s.B1]
def jn.ok (s:jn):Prop:=s.z_.ok∧ct s.B1
structure iI where
 product:bh
 en:aJ
 length:Int
 yR:(List jn)
 nL:(List Df)
 deriving DecidableEq
def J7 (s:iI):AV:=.agg [S s.product.Name,I s.product.fh,I s.product.gg,I s.product.fK,I s.product.gP,(an I) s.product.bG,(an I) s.product.dB,I s.en.X.a,I s.en.X.b,I s.en.Y.a,I s.en.Y.b,I s.length,(an mP) s.yR,(an cq) s.nL]
def iI.ok (s:iI):Prop:=s.product.ok∧s.en.ok∧ct s.length∧(s.yR.length≤9223372036854775807∧∀d,d∈s.yR→d.ok)∧(s.nL.length≤9223372036854775807∧∀d,d∈s.nL→d.ok)
structure cB where
 en:aJ
 level:Int
 deriving DecidableEq
def fT (s:cB):AV:=.agg [I s.en.X.a,I s.en.X.b,I s.en.Y.a,I s.en.Y.b,I s.level]
def cB.ok (s:cB):Prop:=s.en.ok∧ct s.level
structure b9 where
 piece:de
 gJ:Int
 deriving DecidableEq
def dJ (s:b9):AV:=.agg [I s.piece.fS,I s.piece.At,I s.gJ]
def b9.ok (s:b9):Prop:=s.piece.ok∧ct s.gJ
end Go.Proofs.YtccnpbnokndeeaaGreatDoor
namespace Go.Ab
open Go.RowKit
variable{P:Program}
theorem sx {ops:Array Oper} {Q:Exit→Act→World→Prop} {lp n:Nat} (hd:∀o∈ops,∀c,o.op≠.defer c) (hQ:¬LetsOut Q):∀(l:List Nat) (a:Act) (w:World),wpOps P ops Q l a w→wpOpsIn (Fence.wide.inRound lp) n P ops Q l a w
 |[],a,w,h=>h
 |i::l,a,w,h=>by
  simp only [wpOps] at h;simp only [wpOpsIn];cases ho:ops[i]?with
  |none=>
   simp only [ho] at h⊢;exact sx hd hQ l a w h
  |some o=>
   simp only [ho] at h⊢;by_cases hw:Region.wanted o (yielded ops a.tmps)=true
   ·simp only [hw,if_true] at h⊢;rcases h with h|⟨_,h⟩
    ·refine⟨fun _ _=>trivial,?_⟩;rw [Oper.semAt_eq _ _ _ (hd o (Array.mem_of_getElem? ho))];unfold Oper.wp at h;generalize(execOp a.eval o).run P w=r at h;cases r with
     |ok x w'=>
      cases x with
      |value v=>exact sx hd hQ l _ _ h
      |skip=>exact sx hd hQ l _ _ h
      |defer d=>exact sx hd hQ l _ _ h
      |enter f args=>
       refine⟨fun e=>by simp [Fence.inRound,Fence.wide] at e,?_⟩;refine callsIn_wide.2 (Calls.mono h ?_);intro e B2 hq;cases e with
       |returned v=>exact sx hd hQ l _ _ hq
       |panicked c=>exact hq
       |outgrown=>exact hq
      |row r args=>
       refine⟨fun e=>by simp [Fence.inRound,Fence.wide] at e,?_⟩;intro c cs _;obtain⟨v,B2,hr,hs⟩:=h c cs;exact⟨v,B2,sx hd hQ l _ _ hr,stepsIn_wide.2 hs⟩
      |round _ _ _ _ _=>exact h.elim
      |_=>exact h.elim
     |halt x w'=>
      cases x with
      |panic v=>exact h
      |_=>exact h.elim
    ·exact absurd h hQ
   ·simp only [hw,if_false,Bool.false_eq_true] at h⊢;exact⟨fun _ _=>trivial,sx hd hQ l _ _ h⟩
theorem aif {id lp n:Nat} {ops:Array Oper} {draw:Bool} {Q:Exit→Act→World→Prop} {c:Ctx} {K:St→Prop} {s:St} {a:Act} {w:World} {r:List (Option dN)} (hd:∀o∈ops,∀c,o.op≠.defer c) (hQ:¬LetsOut Q) (Bl:∀s s',je s s'→K s→K s') (hK:∀s a w,K s→dh c s a w→Q .normal a w)
  (hlen:ops.toList.length=r.length) (bX:P.follows .mixedOrders=true) (vo:draw=true→vl ops (items 0 ops.toList r)=true) (hr:gN P ops K (items 0 ops.toList r) s) (hs:dh c s a w):(Code.region id ops draw).wpIn (Fence.wide.inRound lp) n P Q a w:=by
 obtain⟨h1,h2⟩:=vn ops.toList r 0 hlen
 have vt:∀x∈items 0 ops.toList r,ops[x.i]?=some x.o:=fun x hx=>by
  have:=(h2 x hx).2;simpa using this
 cases draw with
 |false=>
  refine wpIn_region (sx hd hQ _ _ _ ?_);have:=Fa hK _ s a w vt hr hs;rw [h1] at this;simpa using this
 |true=>
  refine wpIn_region_draw fun t=>sx hd hQ _ _ _ ?_
  simp only [Region.schedule,bX,Bool.true_or,if_true];refine wpAny_sound ops.size t _ a _ ?_;have ec:=vo rfl;unfold vl at ec;simp only [Bool.and_eq_true] at ec
  have hl:(items 0 ops.toList r).length=ops.size:=by
   have:=congrArg List.length h1;simpa using this
  have cu:dh c s a {w with drawn:=w.drawn+1}:=by
   obtain⟨φ,R,q⟩:=hs;have e:=q.ext.trans (G':=fun _=>False) (c:={w with drawn:=w.drawn+1}) ⟨rfl,rfl,rfl,Nat.le_succ _,Nat.le_refl _,fun _ _ _=>rfl⟩ (fun _ _ h=>h.elim);refine⟨φ,R,q.n,fun t av ht=>(q.t t av ht).mono (fun _ _=>rfl) (fun _ h=>h) (fun _ _ h=>h),⟨fun b k hb=>?_,q.m.inj,q.m.fA,q.m.gl.mono (fun _ _=>rfl) (fun _ h=>h)⟩,q.fZ,q.fresh,q.R0,q.Rn,q.Rb,e,q.d,q.eK⟩;obtain⟨oh,ho,hr⟩:=q.m.rel b k hb;exact⟨oh,ho,hr.mono (fun _ _=>rfl) (fun _ _=>rfl) (fun _ _ h=>h)⟩
  refine NY Bl hK ec.1 ops.size _ _ s a _ hl (by simp) vt ?_ ?_ ?_ ec.2 hr cu
  ·rw [h1];simp only [Nat.zero_add,List.map_id'];exact List.pairwise_lt_range
  ·intro i hi;rw [h1];simp [Array.getD_eq_getD_getElem?,hi]
  ·intro j o ho hj;simp [Array.getD_eq_getD_getElem?,(Array.getElem?_eq_some_iff.1 ho).1] at hj
def ll (P:Program) (lim:Nat) (code:Code) (Q:Exit→St→Prop) (s:St):Prop:=
 ∀(lp n:Nat) (c:Ctx) (_:c.w0.heap.size=lim) (a:Act) (w:World),dh c s a w→code.wpIn (Fence.wide.inRound lp) n P (fun e a' w'=>∃s',dh c s' a' w'∧Q e s') a w
def F7 (o:Oper):Bool:=match o.op with
 |.defer _=>false
 |_=>true
theorem aih {ops:Array Oper} (h:ops.toList.all F7=true):∀o∈ops,∀c,o.op≠.defer c:=by
 intro o ho c hc;have:=List.all_eq_true.1 h o (by simpa using ho);simp [F7,hc] at this
def aii (F:St→Prop):Exit→St→Prop
 |.normal,s=>F s
 |_,_=>False
theorem aij {lim id:Nat} {ops:Array Oper} {draw:Bool} {s:St} {F:St→Prop} (bX:P.follows .mixedOrders=true) (hd:ops.toList.all F7=true) (h:Go P ops draw F ops.toList s []):ll P lim (.region id ops draw) (aii F) s:=by
 obtain⟨r,h1,h2,h3⟩:=h;intro lp n c eu a w hs;refine aif (K:=fun s'=>∃s0,je s0 s'∧F s0) (c:=c) (aih hd) ?_ ?_ ?_ h1.symm bX (by simpa using h2) (gN.mono (fun s h=>⟨s,⟨rfl,fun _=>rfl,fun _=>rfl⟩,h⟩) _ (h3 0)) hs
 ·rintro⟨_,_,_,_,h⟩;exact h
 ·rintro s s' h ⟨s0,h0,hq⟩;exact⟨s0,⟨h0.n.trans h.n,fun t=>(h0.t t).trans (h.t t),fun b=>(h0.m b).trans (h.m b)⟩,hq⟩
 ·rintro s a w ⟨s0,h0,hq⟩ ⟨φ,R,cR⟩;exact⟨s0,⟨φ,R,h0.symm.Iz cR⟩,hq⟩
structure gh (w:World) (φ:Ph) (R:Nat→Prop) (M M':Mem) (w':World) (φ':Ph) (R':Nat→Prop):Prop where
 mem:gq w' R' φ' M'
 fZ:∀b x,φ' b=some x→∃y,lk b M'=some y
 fresh:∀b k h,lk b M'=some (some k)→φ' b=some (some h)→w.heap.size≤h.cA∨cG φ M h.cA
 eK:∀b k k',lk b M=some (some k)→lk b M'=some (some k')→φ' b=φ b
 R0:∀n,R n→R' n
 Rn:∀n,R' n→R n∨w.heap.size≤n∨cG φ M n
 Rb:∀n,R' n→n<w'.heap.size
 ext:Ext w w' (cG φ M)
def pD (M M':Mem) (s:St):Prop:=∃ρ,pn ρ M'=true∧IX ρ M M'=true∧et ρ s.m M'
end Go.Ab
end
