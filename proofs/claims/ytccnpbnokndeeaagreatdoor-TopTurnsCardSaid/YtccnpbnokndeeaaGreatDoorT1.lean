/- Texts for the law: Ab1, Ab2, Ab3, Ab4, Ab5, Ab6, Ab7, Ab8, Ab9, Ab10, Ab11, Ab12, Ab13, Ab14. -/
import Derived.Calls
import Derived.Below
import Derived.Laws.AppendOwn
import Derived.Laws.Tables
import Derived.Laws.CopyRow
import Derived.Laws.Append
import Derived.Laws.StructEq
import Derived.Orders
noncomputable section
open Option renaming bind→β
open Sum renaming inr→ι,inl→κ
namespace Go.Ab
open Go.RowKit
inductive AV where
 |bot
 |sc (v:Value)
 |bF
 |agg (cs:List AV)
 |bR (cs:List AV)
 |sl (xs:List AV)
 |vp (cs:List AV)
 |ref (b i off:Nat)
 |arr (b off len:Nat)
 |cE (f:Nat) (first apD:List AV)
 |iQ (d r:Nat) (ks:List ByteArray)
 |jd (xs:List AV)
 deriving Inhabited
def AV.cells:AV→List AV
 |.agg cs=>cs
 |v=>[v]
def AV.k_:AV→Bool
 |.bot|.agg _|.bR _=>false
 |_=>true
def flat:Value→Bool
 |.bool _|.int _ _|.float _ _|.complex _ _ _|.string _|.pointer none|.map none|.chan none|.nilFunc|.nilIface|.func (.yield _) _ _=>true
 |_=>false
structure eI where
 ty:Nat
 bW:Nat
 xs:List AV
structure St where
 n:Nat
 t:List (Nat×AV)
 m:List (Nat×Option eI)
def lk {α:Type}:Nat→List (Nat×α)→Option α
 |_,[]=>none
 |k,(j,v)::l=>match Nat.beq k j with
  |true=>some v
  |false=>lk k l
theorem H_ {α:Type} (k:Nat) (v:α) (l:List (Nat×α)):lk k ((k,v)::l)=some v:=by simp [lk]
theorem EM {α:Type} {k j:Nat} (v:α) (l:List (Nat×α)) (h:k≠j):lk k ((j,v)::l)=lk k l:=by
 have:Nat.beq k j=false:=by
  cases hb:Nat.beq k j
  ·rfl
  ·exact absurd (Nat.eq_of_beq_eq_true hb) h
 simp [lk,this]
theorem dP {α:Type} (k j:Nat) (v:α) (l:List (Nat×α)):lk k ((j,v)::l)=if k=j then some v else lk k l:=by
 by_cases h:k=j
 ·subst h;simp [H_]
 ·simp [h,EM]
theorem qZ {α:Type} (k:Nat) (l l':List (Nat×α)):lk k (l++l')=(lk k l).or (lk k l'):=by
 induction l with
 |nil=>simp [lk]
 |cons p l ih=>
  obtain⟨j,v⟩:=p;simp only [List.cons_append,dP,ih];split<;>simp
def St.get (s:St) (t:Nat):AV:=match lk t s.t with
 |some v=>v
 |none=>.bot
structure Home where
 cA:Nat
 bW:Nat
 cap:Nat
abbrev Ph:=Nat→Option (Option Home)
def Ph.no:Ph:=fun _=>none
inductive Rel (w:World) (R:Nat→Prop):Ph→AV→Value→Prop where
 |bot {φ:Ph} {v:Value}:Rel w R φ .bot v
 |sc {φ:Ph} {v:Value} (h:flat v=true):Rel w R φ (.sc v) v
 |bF {φ:Ph}:Rel w R φ .bF (.slice none 0 0)
 |agg {φ:Ph} {cs:List AV} {vs:Array Value} (hl:cs.length=vs.size) (h:∀(i:Nat) (c:AV) (v:Value),cs[i]?=some c→vs[i]?=some v→Rel w R φ c v):Rel w R φ (.agg cs) (.agg vs)
 |bR {φ:Ph} {cs:List AV} {vs:Array Value} (hl:cs.length=vs.size) (h:∀(i:Nat) (c:AV) (v:Value),cs[i]?=some c→vs[i]?=some v→Rel w R φ c v):Rel w R φ (.bR cs) (.tuple vs)
 |jG {φ:Ph} {a:Option Addr} {cap:Nat}:Rel w R φ (.sl []) (.slice a 0 cap)
 |sl {φ:Ph} {xs:List AV} {b o cap e:Nat} (f:Nat→Value) (he:0<e) (hR:R b) (lZ:xs.length≤cap)
   (hl:∀(i:Nat) (x:AV),xs[i]?=some x→x.cells.length=e) (hc:∀k,k<xs.length*e→w.cell? ⟨b,o+k,none⟩=some (f k))
   (hr:∀(i:Nat) (x:AV) (j:Nat) (c:AV),xs[i]?=some x→x.cells[j]?=some c→Rel w R Ph.no c (f (i*e+j))):Rel w R φ (.sl xs) (.slice (some ⟨b,o,none⟩) xs.length cap)
 |vp {φ:Ph} {cs:List AV} {b o:Nat} (f:Nat→Value) (hR:R b) (hc:∀k,k<cs.length→w.cell? ⟨b,o+k,none⟩=some (f k))
   (hr:∀(j:Nat) (c:AV),cs[j]?=some c→Rel w R Ph.no c (f j)):Rel w R φ (.vp cs) (.pointer (some ⟨b,o,none⟩))
 |ref {φ:Ph} {b i off:Nat} {h:Home} (hb:φ b=some (some h)):Rel w R φ (.ref b i off) (.pointer (some ⟨h.cA,i*h.bW+off,none⟩))
 |arr {φ:Ph} {b off len cap:Nat} {h:Home} (hb:φ b=some (some h)) (hl:len≤cap) (hc:off+cap=h.cap):Rel w R φ (.arr b off len) (.slice (some ⟨h.cA,off*h.bW,none⟩) len cap)
 |kg {φ:Ph} {b:Nat} (hb:φ b=some none):Rel w R φ (.arr b 0 0) (.slice none 0 0)
 |cE {φ:Ph} {f:Nat} {fs cs:List AV} {fv cv:Array Value} (hf:fs.length=fv.size) (hc:cs.length=cv.size)
   (h1:∀(i:Nat) (c:AV) (v:Value),fs[i]?=some c→fv[i]?=some v→Rel w R φ c v) (h2:∀(i:Nat) (c:AV) (v:Value),cs[i]?=some c→cv[i]?=some v→Rel w R φ c v):Rel w R φ (.cE f fs cs) (.func (.func f) fv cv)
 |iQ {φ:Ph} {d r Yq:Nat} {ks:List ByteArray} {E:Array MapEntry} (hd:φ d=some none) (hR:R r) (hc:w.heap[r]?=some (.map E Yq)) (he:E.toList.map (fun e=>(e.key,e.val))=ks.map fun k=>(Value.string k,Value.bool true)):Rel w R φ (.iQ d r ks) (.map (some r))
 |jd {φ:Ph} {xs:List AV} {a:Option Addr} {n:Nat} (h:Rel w R φ (.sl xs) (.slice a n n)):Rel w R φ (.jd xs) (.slice a n n)
theorem Rel.mono {w w':World} {R R':Nat→Prop} {φ φ':Ph} {a:AV} {v:Value} (h:Rel w R φ a v)
  (hw:∀n,R n→w'.heap[n]?=w.heap[n]?) (hR:∀n,R n→R' n) (oe:∀b x,φ b=some x→φ' b=some x):Rel w' R' φ' a v:=by
 induction h generalizing φ' with
 |bot=>exact .bot
 |sc h=>exact .sc h
 |bF=>exact .bF
 |agg hl _ ih=>exact .agg hl fun i c v h1 h2=>ih i c v h1 h2 oe
 |bR hl _ ih=>exact .bR hl fun i c v h1 h2=>ih i c v h1 h2 oe
 |jG=>exact .jG
 |@sl φ xs b o cap e f he eJ lZ hl hc hr ih=>
  refine .sl f he (hR _ eJ) lZ hl (fun k hk=>?_) (fun i x j c h1 h2=>ih i x j c h1 h2 (fun _ _ h=>h));rw [←hc k hk];exact World.cell?_of_block (hw _ eJ)
 |@vp φ cs b o f eJ hc hr ih=>
  refine .vp f (hR _ eJ) (fun k hk=>?_) (fun j c h1=>ih j c h1 (fun _ _ h=>h));rw [←hc k hk];exact World.cell?_of_block (hw _ eJ)
 |ref hb=>exact .ref (oe _ _ hb)
 |arr hb hl hc=>exact .arr (oe _ _ hb) hl hc
 |kg hb=>exact .kg (oe _ _ hb)
 |cE hf hc _ _ rW rX=>exact .cE hf hc (fun i c v h1 h2=>rW i c v h1 h2 oe) (fun i c v h1 h2=>rX i c v h1 h2 oe)
 |iQ hd eJ hc he=>exact .iQ (oe _ _ hd) (hR _ eJ) ((hw _ eJ).trans hc) he
 |jd _ ih=>exact .jd (ih oe)
theorem Rel.cells {w:World} {R:Nat→Prop} {φ:Ph} {a:AV} {v:Value} (h:Rel w R φ a v) (ep:a≠.bot):
  a.cells.length=v.cells.size∧∀(i:Nat) (c:AV) (u:Value),a.cells[i]?=some c→v.cells[i]?=some u→Rel w R φ c u:=by
 have one:∀{a:AV} {v:Value},Rel w R φ a v→a.cells=[a]→v.cells=#[v]→a.cells.length=v.cells.size∧∀(i:Nat) (c:AV) (u:Value),a.cells[i]?=some c→v.cells[i]?=some u→Rel w R φ c u:=by
  intro a v h h1 h2;rw [h1,h2];refine⟨rfl,fun i c u hc hu=>?_⟩;cases i with
  |zero=>simp at hc hu;subst hc;subst hu;exact h
  |succ i=>simp at hc
 cases h with
 |bot=>exact absurd rfl ep
 |agg hl h=>exact⟨hl,h⟩
 |sc hf=>exact one (.sc hf) rfl (by cases v<;>simp_all [flat,Value.cells])
 |bF=>exact one .bF rfl rfl
 |bR hl h=>exact one (.bR hl h) rfl rfl
 |jG=>exact one .jG rfl rfl
 |sl f he hR lZ hl hc hr=>exact one (.sl f he hR lZ hl hc hr) rfl rfl
 |vp f hR hc hr=>exact one (.vp f hR hc hr) rfl rfl
 |ref hb=>exact one (.ref hb) rfl rfl
 |arr hb hl hc=>exact one (.arr hb hl hc) rfl rfl
 |kg hb=>exact one (.kg hb) rfl rfl
 |cE hf hc h1 h2=>exact one (.cE hf hc h1 h2) rfl rfl
 |iQ hd hR hc he=>exact one (.iQ hd hR hc he) rfl rfl
 |jd h=>exact one (.jd h) rfl rfl
theorem Rel.H' {w:World} {R:Nat→Prop} {φ:Ph} {a:AV} {v:Value} (h:Rel w R φ a v) (hc:a.k_=true):v.oneCell'=true:=by
 cases h<;>simp_all [AV.k_,Value.oneCell']
 rename_i hf;cases v<;>simp_all [flat]
def iB (w:World) (R:Nat→Prop) (φ:Ph) (oh:Option Home) (k:eI):Prop:=
 match oh with
 |none=>k.xs=[]
 |some h=>k.bW=h.bW∧0<h.bW∧k.xs.length≤h.cap∧h.cap≤maxLen∧∃C,w.heap[h.cA]?=some (.cells C k.ty (0,0))∧C.size=h.cap*h.bW∧
   ∀(i:Nat) (x:AV),k.xs[i]?=some x→x.cells.length=h.bW∧∀(j:Nat) (c:AV),x.cells[j]?=some c→∃u,C[i*h.bW+j]?=some u∧Rel w R φ c u
def pd:List (Nat×List AV):=[(0,[.sc (.int .i64 (-1)),.sc (.int .i64 (-1))]),(1,[.sc (.int .i64 1),.sc (.int .i64 0),.sc (.int .i64 0),.sc (.int .i64 1),.sc (.int .i64 (-1)),.sc (.int .i64 0),.sc (.int .i64 0),.sc (.int .i64 (-1))]),(2,[.sc (.int .i64 (-1)),.sc (.int .i64 1)])]
def tk (w:World) (R:Nat→Prop):Prop:=∀g cs,lk g pd=some cs→R g∧∀k c,cs[k]?=some c→∃v,flat v=true∧c=.sc v∧w.cell? ⟨g,k,none⟩=some v
theorem tk.mono {w w':World} {R R':Nat→Prop} (h:tk w R) (hw:∀n,R n→w'.heap[n]?=w.heap[n]?) (hR:∀n,R n→R' n):tk w' R':=fun g cs hg=>by
 obtain⟨h1,h2⟩:=h g cs hg;refine⟨hR g h1,fun k c hk=>?_⟩;obtain⟨v,e1,e2,e3⟩:=h2 k c hk;exact⟨v,e1,e2,(World.cell?_of_block (hw g h1)).trans e3⟩
structure gq (w:World) (R:Nat→Prop) (φ:Ph) (m:List (Nat×Option eI)):Prop where
 rel:∀b k,lk b m=some (some k)→∃oh,φ b=some oh∧iB w R φ oh k
 inj:∀b b' k k' h h',lk b m=some (some k)→lk b' m=some (some k')→φ b=some (some h)→φ b'=some (some h')→h.cA=h'.cA→b=b'
 fA:∀b k h,lk b m=some (some k)→φ b=some (some h)→¬R h.cA
 gl:tk w R
def cG (φ:Ph) (m:List (Nat×Option eI)) (n:Nat):Prop:=∃b k h,lk b m=some (some k)∧φ b=some (some h)∧h.cA=n
structure Ext (w w':World) (G:Nat→Prop):Prop where
 os:w'.os=w.os
 tape:w'.tape=w.tape
 output:w'.output=w.output
 dr:w.drawn≤w'.drawn
 size:w.heap.size≤w'.heap.size
 block:∀i,i<w.heap.size→¬G i→w'.heap[i]?=w.heap[i]?
theorem Ext.refl (w:World) (G:Nat→Prop):Ext w w G:=⟨rfl,rfl,rfl,Nat.le_refl _,Nat.le_refl _,fun _ _ _=>rfl⟩
theorem Ext.trans {a b c:World} {G G':Nat→Prop} (h:Ext a b G) (k:Ext b c G') (hG:∀i,i<a.heap.size→G' i→G i):Ext a c G:=
 ⟨k.os.trans h.os,k.tape.trans h.tape,k.output.trans h.output,Nat.le_trans h.dr k.dr,Nat.le_trans h.size k.size,fun i hi hn=>
  (k.block i (Nat.lt_of_lt_of_le hi h.size) (fun hg=>hn (hG i hi hg))).trans (h.block i hi hn)⟩
theorem Ext.below {w w':World} {G:Nat→Prop} (h:Ext w w' G) (hG:∀i,¬G i):Below w.heap.size w w':=
 ⟨h.os,h.tape,h.output,h.size,fun k hk=>h.block k hk (hG k)⟩
structure Ctx where
 w0:World
 G:Nat→Prop
 R0:Nat→Prop
 xU:Ph
 ds:List Deferred
structure cz (c:Ctx) (φ:Ph) (R:Nat→Prop) (s:St) (a:Act) (w:World):Prop where
 n:a.tmps.size=s.n
 t:∀t av,lk t s.t=some av→Rel w R φ av (a.tmps.getD t undef)
 m:gq w R φ s.m
 fZ:∀b x,φ b=some x→∃y,lk b s.m=some y
 fresh:∀b k h,lk b s.m=some (some k)→φ b=some (some h)→c.w0.heap.size≤h.cA∨c.G h.cA
 R0:∀n,c.R0 n→R n
 Rn:∀n,R n→c.R0 n∨c.w0.heap.size≤n∨c.G n
 Rb:∀n,R n→n<w.heap.size
 ext:Ext c.w0 w c.G
 d:a.defers=c.ds
 eK:∀b,1000≤b→φ b=none∨φ b=c.xU b
def Fr (s:St) (d:Nat):Prop:=lk d s.m=none∧d<1000
def dh (c:Ctx) (s:St) (a:Act) (w:World):Prop:=∃φ R,cz c φ R s a w
theorem cz.get {c:Ctx} {φ:Ph} {R:Nat→Prop} {s:St} {a:Act} {w:World} (h:cz c φ R s a w) (t:Nat):Rel w R φ (s.get t) (a.tmps.getD t undef):=by
 unfold St.get;split
 ·rename_i v hv;exact h.t _ _ hv
 ·exact .bot
def ofConst:Value→AV
 |.slice none 0 0=>.bF
 |v=>match flat v with
  |true=>.sc v
  |false=>.bot
theorem Ia {w:World} {R:Nat→Prop} {φ:Ph} (v:Value):Rel w R φ (ofConst v) v:=by
 unfold ofConst;split
 ·exact .bF
 ·split
  ·rename_i h;exact .sc h
  ·exact .bot
def St.ev (s:St):Operand→AV
 |.tmp t=>s.get t
 |.const v=>ofConst v
 |.global g=>match lk g pd with
  |some cs=>.vp cs
  |none=>.bot
 |.func f=>.cE f [] []
theorem cz.ev {c:Ctx} {φ:Ph} {R:Nat→Prop} {s:St} {a:Act} {w:World} (h:cz c φ R s a w) (x:Operand):Rel w R φ (s.ev x) (a.eval x):=by
 cases x with
 |tmp t=>exact h.get t
 |const v=>exact Ia v
 |global g=>
  show Rel w R φ (match lk g pd with|some cs=>.vp cs|none=>.bot) (.pointer (some ⟨g,0,none⟩))
  cases hg:lk g pd with
  |none=>exact .bot
  |some cs=>
   obtain⟨h1,h2⟩:=h.m.gl g cs hg;refine .vp (fun k=>((w.cell? ⟨g,k,none⟩).getD undef)) h1 (fun k hk=>?_) (fun k c hk=>?_)
   ·obtain⟨v,_,_,e⟩:=h2 k _ (List.getElem?_eq_getElem hk);rw [Nat.zero_add,e];rfl
   ·obtain⟨v,e1,rfl,e⟩:=h2 k c hk;rw [e];exact .sc e1
 |func f=>exact .cE rfl rfl (by simp) (by simp)
def St.put (s:St) (dst:Option Nat) (v:AV):St:=
 match dst with
 |none=>s
 |some d=>match Nat.blt d s.n with
  |true=>{s with t:=(d,v)::s.t}
  |false=>s
@[simp] theorem St.apE (s:St) (dst:Option Nat) (v:AV):(s.put dst v).m=s.m:=by
 unfold St.put;split
 ·rfl
 ·split<;>rfl
@[simp] theorem St.apF (s:St) (dst:Option Nat) (v:AV):(s.put dst v).n=s.n:=by
 unfold St.put;split
 ·rfl
 ·split<;>rfl
theorem St.Yr {s:St} {a:Act} {dst:Option Nat} {v:AV} {u:Value} {w:World} {R:Nat→Prop} {φ:Ph} (hn:a.tmps.size=s.n)
  (ht:∀t av,lk t s.t=some av→Rel w R φ av (a.tmps.getD t undef)) (hv:Rel w R φ v u):
  ∀t av,lk t (s.put dst v).t=some av→Rel w R φ av ((a.put dst u).tmps.getD t undef):=by
 intro t av h;unfold St.put at h;cases dst with
 |none=>simpa [Act.put] using ht t av h
 |some d=>
  simp only [Act.put];by_cases hd:d<s.n
  ·have hb:Nat.blt d s.n=true:=by simpa [Nat.blt_eq] using hd
   simp only [hb] at h;rw [dP] at h;by_cases e:t=d
   ·subst e;simp at h;subst h;simp [Array.getD_eq_getD_getElem?,hn,hd];exact hv
   ·simp [e] at h;have:=ht t av h;simpa [Array.getD_eq_getD_getElem?,Array.getElem?_setIfInBounds,Ne.symm e] using this
  ·have hb:Nat.blt d s.n=false:=by
    cases hx:Nat.blt d s.n
    ·rfl
    ·exact absurd (by simpa [Nat.blt_eq] using hx) hd
   simp only [hb] at h;have:=ht t av h
   have e:a.tmps.setIfInBounds d u=a.tmps:=by
    apply Array.ext (by simp);intro i h1 h2;rw [Array.getElem_setIfInBounds];split
    ·subst_vars;omega
    ·rfl
   simpa [e] using this
@[simp] theorem apG (a:Act) (dst:Option Nat) (v:Value):(a.put dst v).tmps.size=a.tmps.size:=by cases dst<;>simp [Act.put]
@[simp] theorem put_defers (a:Act) (dst:Option Nat) (v:Value):(a.put dst v).defers=a.defers:=by cases dst<;>simp [Act.put]
theorem cz.put {c:Ctx} {φ:Ph} {R:Nat→Prop} {s:St} {a:Act} {w:World} (h:cz c φ R s a w) (dst:Option Nat) {v:AV} {u:Value} (hv:Rel w R φ v u):
  cz c φ R (s.put dst v) (a.put dst u) w:=
 ⟨by simp [h.n],St.Yr h.n h.t hv,by simpa using h.m,by simpa using h.fZ,by simpa using h.fresh,h.R0,h.Rn,h.Rb,h.ext,by simp [h.d],h.eK⟩
structure dN where
 v:AV
 wr:List (Nat×Option eI)
 acc:List Nat
 nw:List Nat
def St.app (s:St) (dst:Option Nat) (e:dN):St:={n:=s.n,t:=(s.put dst e.v).t,m:=e.wr++s.m}
def EN (P:Program) (o:Oper) (s s':St):Prop:=
 ∀(c:Ctx) (a:Act) (w:World) (next:Act→World→Prop) (Q:Exit→Act→World→Prop),dh c s a w→(∀a' w',dh c s' a' w'→next a' w')→o.wp P a w next Q
def cM (P:Program) (o:Oper) (s:St) (e:dN):Prop:=
 ∀s':St,s'.n=s.n→(∀x∈o.op.operands.toList,s'.ev x=s.ev x)→(∀b∈e.acc,lk b s'.m=lk b s.m)→(∀b∈e.nw,Fr s' b)→EN P o s' (s'.app o.dst e)
theorem tl {P:Program} {o:Oper} {s s':St}
  (h:∀c φ R a w,cz c φ R s a w→∃v w' φ' R',(execOp a.eval o).run P w=.ok (.value v) w'∧cz c φ' R' s' (a.put o.dst v) w'):EN P o s s':=by
 intro c a w next Q ⟨φ,R,hs⟩ hn
 obtain⟨v,w',φ',R',hr,cu⟩:=h c φ R a w hs;unfold Oper.wp;rw [hr];exact hn _ _ ⟨φ',R',cu⟩
theorem Ys {P:Program} {o:Oper} {s s':St}
  (h:∀c φ R a w,cz c φ R s a w→∃w' φ' R',(execOp a.eval o).run P w=.ok .skip w'∧cz c φ' R' s' (a.put o.dst undef) w'):EN P o s s':=by
 intro c a w next Q ⟨φ,R,hs⟩ hn
 obtain⟨w',φ',R',hr,cu⟩:=h c φ R a w hs;unfold Oper.wp;rw [hr];exact hn _ _ ⟨φ',R',cu⟩
def Ph.up (φ:Ph) (d:Nat) (x:Option Home):Ph:=fun b=>if b=d then some x else φ b
theorem Ph.Bb {φ:Ph} {d:Nat} (x:Option Home) (h:φ d=none):∀b y,φ b=some y→φ.up d x b=some y:=by
 intro b y hb;unfold Ph.up;split
 ·subst_vars;rw [h] at hb;cases hb
 ·exact hb
theorem cz.lt {c:Ctx} {φ:Ph} {R:Nat→Prop} {s:St} {a:Act} {w:World} (h:cz c φ R s a w) {b:Nat} {k:eI} {x:Home} (hb:lk b s.m=some (some k)) (hx:φ b=some (some x)):x.cA<w.heap.size:=by
 obtain⟨oh,ho,hr⟩:=h.m.rel b k hb;rw [hx] at ho;cases ho;obtain⟨_,_,_,_,C,hC,_⟩:=hr;exact(Array.getElem?_eq_some_iff.1 hC).1
theorem iB.mono {w w':World} {R:Nat→Prop} {φ φ':Ph} {oh:Option Home} {k:eI} (h:iB w R φ oh k) (hw:∀n,R n→w'.heap[n]?=w.heap[n]?)
  (hb:∀x,oh=some x→w'.heap[x.cA]?=w.heap[x.cA]?) (oe:∀b x,φ b=some x→φ' b=some x):iB w' R φ' oh k:=by
 cases oh with
 |none=>exact h
 |some x=>
  obtain⟨h1,h2,h3,h4,C,hC,hs,hr⟩:=h;refine⟨h1,h2,h3,h4,C,by rw [hb x rfl];exact hC,hs,fun i y hy=>⟨(hr i y hy).1,fun j z hz=>?_⟩⟩;obtain⟨u,hu,gL⟩:=(hr i y hy).2 j z hz;exact⟨u,hu,gL.mono hw (fun _ h=>h) oe⟩
theorem cz.add {c:Ctx} {φ:Ph} {R:Nat→Prop} {s:St} {a:Act} {w w':World} (h:cz c φ R s a w) (d:Nat) (ig:Fr s d) (k:eI) (x:Home)
  (he:Ext w w' (fun _=>False)) (hx:w.heap.size≤x.cA) (hk:iB w' R (φ.up d (some x)) (some x) k):
  cz c (φ.up d (some x)) R {s with m:=(d,some k)::s.m} a w':=by
 obtain⟨hd,pW⟩:=ig
 have u9:φ d=none:=by
  cases hq:φ d with
  |none=>rfl
  |some y=>obtain⟨z,hz⟩:=h.fZ d y hq;rw [hd] at hz;cases hz
 have u_:=Ph.Bb (φ:=φ) (d:=d) (some x) u9;have hw:∀n,R n→w'.heap[n]?=w.heap[n]?:=fun n hn=>he.block n (h.Rb n hn) (by simp)
 have pX:φ.up d (some x) d=some (some x):=by simp [Ph.up]
 have ij:∀b,b≠d→φ.up d (some x) b=φ b:=fun b hb=>by simp [Ph.up,hb]
 refine⟨h.n,fun t av ht=>(h.t t av ht).mono hw (fun _ h=>h) u_,⟨?_,?_,?_,h.m.gl.mono hw (fun _ h=>h)⟩,?_,?_,h.R0,h.Rn,fun n hn=>Nat.lt_of_lt_of_le (h.Rb n hn) he.size,h.ext.trans he (fun _ _ hf=>hf.elim),h.d,fun b hb=>by rw [ij b (by omega)];exact h.eK b hb⟩
 ·intro b kk hb;rw [dP] at hb;split at hb
  ·subst_vars;cases hb;exact⟨_,pX,hk⟩
  ·rename_i ep;obtain⟨oh,ho,hr⟩:=h.m.rel b kk hb;refine⟨oh,by rw [ij b ep];exact ho,hr.mono hw (fun y hy=>?_) u_⟩;subst hy;exact he.block _ (h.lt hb ho) (by simp)
 ·intro b b' k1 k2 y y' hb gH hy kC heq;rw [dP] at hb gH;by_cases e:b=d
  ·by_cases e':b'=d
   ·rw [e,e']
   ·exfalso;subst e;rw [if_neg e'] at gH;rw [pX] at hy;cases hy;rw [ij _ e'] at kC;have:=h.lt gH kC;omega
  ·by_cases e':b'=d
   ·exfalso;subst e';rw [if_neg e] at hb;rw [pX] at kC;cases kC;rw [ij _ e] at hy;have:=h.lt hb hy;omega
   ·rw [if_neg e] at hb;rw [if_neg e'] at gH;rw [ij _ e] at hy;rw [ij _ e'] at kC;exact h.m.inj b b' k1 k2 y y' hb gH hy kC heq
 ·intro b k1 y hb hy;rw [dP] at hb;by_cases e:b=d
  ·subst e;rw [pX] at hy;cases hy;intro hR;have:=h.Rb _ hR;omega
  ·rw [if_neg e] at hb;rw [ij _ e] at hy;exact h.m.fA b k1 y hb hy
 ·intro b y hy;by_cases e:b=d
  ·exact⟨some k,by rw [dP,if_pos e]⟩
  ·rw [ij _ e] at hy;obtain⟨z,hz⟩:=h.fZ b y hy;exact⟨z,by rw [dP,if_neg e];exact hz⟩
 ·intro b k1 y hb hy;rw [dP] at hb;by_cases e:b=d
  ·subst e;rw [pX] at hy;cases hy;exact .inl (Nat.le_trans h.ext.size hx)
  ·rw [if_neg e] at hb;rw [ij _ e] at hy;exact h.fresh b k1 y hb hy
theorem cz.write {c:Ctx} {φ:Ph} {R:Nat→Prop} {s:St} {a:Act} {w:World} (h:cz c φ R s a w) {b:Nat} {k k':eI} {x:Home} (hb:lk b s.m=some (some k)) (hx:φ b=some (some x))
  (C':Array Value) (hk:iB (w.setRow x.cA C') R φ (some x) k'):cz c φ R {s with m:=(b,some k')::s.m} a (w.setRow x.cA C'):=by
 have ij:∀n,n≠x.cA→(w.setRow x.cA C').heap[n]?=w.heap[n]?:=fun n hn=>setRow_other w x.cA n C' hn
 have lC:=h.m.fA b k x hb hx;have hw:∀n,R n→(w.setRow x.cA C').heap[n]?=w.heap[n]?:=fun n hn=>ij n (fun e=>lC (e▸hn))
 refine⟨h.n,fun t av ht=>(h.t t av ht).mono hw (fun _ h=>h) (fun _ _ h=>h),⟨?_,?_,?_,h.m.gl.mono hw (fun _ h=>h)⟩,?_,?_,h.R0,h.Rn,fun n hn=>by simpa using h.Rb n hn,?_,h.d,h.eK⟩
 ·intro b1 k1 h1;rw [dP] at h1;split at h1
  ·subst_vars;cases h1;exact⟨_,hx,hk⟩
  ·rename_i ep;obtain⟨oh,ho,hr⟩:=h.m.rel b1 k1 h1;refine⟨oh,ho,hr.mono hw (fun y hy=>ij _ (fun e=>ep ?_)) (fun _ _ h=>h)⟩;subst hy;exact h.m.inj b1 b k1 k y x h1 hb ho hx e
 ·intro b1 b2 k1 k2 y1 y2 h1 h2 e1 e2 heq
  have f:∀b1 k1,lk b1 ((b,some k')::s.m)=some (some k1)→∃k0,lk b1 s.m=some (some k0):=by
   intro b1 k1 h1;rw [dP] at h1;split at h1
   ·subst_vars;exact⟨k,hb⟩
   ·exact⟨k1,h1⟩
  obtain⟨q1,g1⟩:=f b1 k1 h1;obtain⟨q2,g2⟩:=f b2 k2 h2;exact h.m.inj b1 b2 q1 q2 y1 y2 g1 g2 e1 e2 heq
 ·intro b1 k1 y h1 e1;rw [dP] at h1;split at h1
  ·subst_vars;exact h.m.fA _ k y hb e1
  ·exact h.m.fA b1 k1 y h1 e1
 ·intro b1 y hy;obtain⟨z,hz⟩:=h.fZ b1 y hy;rw [dP];split
  ·exact⟨_,rfl⟩
  ·exact⟨z,hz⟩
 ·intro b1 k1 y h1 e1;rw [dP] at h1;split at h1
  ·subst_vars;exact h.fresh _ k y hb e1
  ·exact h.fresh b1 k1 y h1 e1
 ·refine h.ext.trans (G':=fun i=>i=x.cA) ⟨rfl,rfl,rfl,Nat.le_refl _,by simp,fun i _ hi=>ij i hi⟩ (fun i hi e=>?_);rcases h.fresh b k x hb hx with hf|hf
  ·omega
  ·rw [e];exact hf
theorem cz.kill {c:Ctx} {φ:Ph} {R:Nat→Prop} {s:St} {a:Act} {w:World} (h:cz c φ R s a w) (b:Nat):cz c φ R {s with m:=(b,none)::s.m} a w:=by
 have f:∀b1 k1,lk b1 ((b,none)::s.m)=some (some k1)→lk b1 s.m=some (some k1):=by
  intro b1 k1 h1;rw [dP] at h1;split at h1
  ·cases h1
  ·exact h1
 refine⟨h.n,h.t,⟨fun b1 k1 h1=>h.m.rel b1 k1 (f _ _ h1),fun b1 b2 k1 k2 y1 y2 h1 h2=>h.m.inj b1 b2 k1 k2 y1 y2 (f _ _ h1) (f _ _ h2),fun b1 k1 y h1=>h.m.fA b1 k1 y (f _ _ h1),h.m.gl⟩,?_,fun b1 k1 y h1=>h.fresh b1 k1 y (f _ _ h1),h.R0,h.Rn,h.Rb,h.ext,h.d,h.eK⟩;intro b1 y hy;obtain⟨z,hz⟩:=h.fZ b1 y hy;rw [dP];split
 ·exact⟨_,rfl⟩
 ·exact⟨z,hz⟩
theorem cz.app {c:Ctx} {φ:Ph} {R:Nat→Prop} {s:St} {a:Act} {w:World} {m:List (Nat×Option eI)} (h:cz c φ R {s with m:=m} a w) (dst:Option Nat) {v:AV} {u:Value} (hv:Rel w R φ v u):
  cz c φ R {n:=s.n,t:=(s.put dst v).t,m:=m} (a.put dst u) w:=by
 have:=h.put dst hv
 have e:(St.put {s with m:=m} dst v).t=(s.put dst v).t:=by
  unfold St.put;cases dst with
  |none=>rfl
  |some d=>dsimp only;cases Nat.blt d s.n<;>rfl
 exact⟨by simpa using this.n,by rw [←e];exact this.t,by simpa using this.m,by simpa using this.fZ,by simpa using this.fresh,this.R0,this.Rn,this.Rb,this.ext,this.d,this.eK⟩
theorem f_ {P:Program} {o:Oper} {s:St} {v:AV} {acc:List Nat}
  (h:∀c φ R a w,cz c φ R s a w→∃u,(execOp a.eval o).run P w=.ok (.value u) w∧Rel w R φ v u):EN P o s (s.app o.dst ⟨v,[],acc,[]⟩):=by
 refine tl fun c φ R a w hs=>?_
 obtain⟨u,hr,hv⟩:=h c φ R a w hs;exact⟨u,w,φ,R,hr,cz.app (s:=s) (m:=s.m) hs o.dst hv⟩
inductive aG where
 |base|bool|int (k:IntKind)|str|slice (e:Nat)|array (n e:Nat)|struct (fs:List (Nat×Nat))
def aG.isAgg:aG→Bool
 |.array _ _|.struct _=>true
 |_=>false
structure ae where
 k:aG
 size:Nat
 bytes:Nat
 zero:AV
def pe:Value→AV
 |.agg vs=>.agg (vs.toList.map ofConst)
 |v=>ofConst v
def kindOf (P:Program):TypeDesc→aG
 |.bool=>.bool
 |.int k=>.int k
 |.string=>.str
 |.slice e=>.slice e
 |.array n e=>.array n e
 |.struct F=>.struct (F.toList.map fun f=>(f.offset,P.cellsOf f.type))
 |_=>.base
def az (P:Program) (t:Nat):Option ae:=
 match P.info? t with
 |none=>none
 |some i=>match i.zero with
  |none=>none
  |some z=>match P.underlying t with
   |none=>none
   |some u=>match Nat.beq z.cells.size i.size with
    |true=>some {k:=kindOf P u,size:=i.size,bytes:=i.bytes,zero:=pe z}
    |false=>none
theorem la {P:Program} {t:Nat} {d:ae} (h:az P t=some d):∃i z u,P.info? t=some i∧i.zero=some z∧P.underlying t=some u∧i.size=d.size∧i.bytes=d.bytes∧d.zero=pe z∧z.cells.size=d.size∧d.k=kindOf P u:=by
 unfold az at h;cases hi:P.info? t with
 |none=>simp [hi] at h
 |some i=>
  cases hz:i.zero with
  |none=>simp [hi,hz] at h
  |some z=>
   cases hu:P.underlying t with
   |none=>simp [hi,hz,hu] at h
   |some u=>
    simp only [hi,hz,hu] at h;cases hb:Nat.beq z.cells.size i.size with
    |false=>simp [hb] at h
    |true=>
     simp only [hb,Option.some.injEq] at h;subst h;exact⟨i,z,u,rfl,hz,rfl,rfl,rfl,rfl,Nat.eq_of_beq_eq_true hb,rfl⟩
theorem Yt {v:Value} (h:v.cells=#[v]):(ofConst v).cells=[ofConst v]:=by
 unfold ofConst;split
 ·rfl
 ·split<;>rfl
theorem xV (w:World) (R:Nat→Prop) (φ:Ph) (z:Value):(pe z).cells.length=z.cells.size∧∀(i:Nat) (c:AV) (u:Value),(pe z).cells[i]?=some c→z.cells[i]?=some u→Rel w R φ c u:=by
 have one:∀v:Value,v.cells=#[v]→pe v=ofConst v→(pe v).cells.length=v.cells.size∧∀(i:Nat) (c:AV) (u:Value),(pe v).cells[i]?=some c→v.cells[i]?=some u→Rel w R φ c u:=by
  intro v hv he;rw [he,Yt hv,hv];refine⟨rfl,fun i c u hc hu=>?_⟩;cases i with
  |zero=>simp at hc hu;subst hc;subst hu;exact Ia v
  |succ i=>simp at hc
 cases z with
 |agg vs=>
  refine⟨by simp [pe,AV.cells,Value.cells],fun i c u hc hu=>?_⟩;simp only [pe,AV.cells,List.getElem?_map,Value.cells] at hc hu;rw [←Array.getElem?_toList] at hu;rw [hu] at hc;simp at hc;subst hc;exact Ia u
 |_=>exact one _ rfl rfl
theorem EO {P:Program} {t:Nat} {d:ae} (h:az P t=some d) (w:World):(isAgg t).run P w=.ok d.k.isAgg w:=by
 obtain⟨i,z,u,_,_,hu,_,_,_,_,hk⟩:=la h;unfold isAgg;rw [Sem.run_bind,run_underlying hu w,hk];cases u<;>simp [kindOf,aG.isAgg]
theorem run_sizeOf {P:Program} {t:Nat} {d:ae} (h:az P t=some d) (w:World):(sizeOf t).run P w=.ok d.size w:=by
 obtain⟨i,z,u,hi,_,_,hs,_⟩:=la h;simp [sizeOf,typeInfo,hi,hs]
theorem q7 (b o n:Nat):(⟨b,o,none⟩:Addr).add n=⟨b,o+n,none⟩:=by unfold Addr.add;split<;>simp_all
section
variable{P:Program} {o:Oper} {s:St}
theorem Yu {x:Operand} {v:AV} (ho:o.op=.move x) (hx:s.ev x=v):cM P o s ⟨v,[],[],[]⟩:=by
 intro s' _ bS _ _;refine f_ fun c φ R a w hs=>⟨a.eval x,by simp [execOp,ho],?_⟩
 have:=hs.ev x;rwa [bS x (by simp [ho,Op.operands]),hx] at this
theorem Yv {x:Operand} {v:AV} (ho:o.op=.assign x) (hx:s.ev x=v):cM P o s ⟨v,[],[],[]⟩:=by
 intro s' _ bS _ _;refine f_ fun c φ R a w hs=>⟨a.eval x,by simp [execOp,ho],?_⟩
 have:=hs.ev x;rwa [bS x (by simp [ho,Op.operands]),hx] at this
theorem Rel.gI {w:World} {R:Nat→Prop} {φ:Ph} {v u:Value} (h:Rel w R φ (.sc v) u):u=v:=by cases h;rfl
theorem Nl {x y z:Operand} {b:Bool} {v:AV} (ho:o.op=.pick x y z) (hx:s.ev x=.sc (.bool b)) (hv:cond b (s.ev y) (s.ev z)=v):cM P o s ⟨v,[],[],[]⟩:=by
 intro s' _ bS _ _;refine f_ fun c φ R a w hs=>?_
 have h1:=hs.ev x;rw [bS x (by simp [ho,Op.operands]),hx] at h1;have h1:=h1.gI;cases b
 ·refine⟨a.eval z,by simp [execOp,ho,h1,asBool],?_⟩;have:=hs.ev z;rw [bS z (by simp [ho,Op.operands])] at this;exact hv▸this
 ·refine⟨a.eval y,by simp [execOp,ho,h1,asBool],?_⟩;have:=hs.ev y;rw [bS y (by simp [ho,Op.operands])] at this;exact hv▸this
theorem Yw {w:World} {R:Nat→Prop} {φ:Ph} {T n:Nat} {C:Array Value} {av:AV} (eJ:∀n,R n→n<w.heap.size) (hn:0<n) (hC:C.size=n) (ha:av.cells.length=n)
  (hr:∀(i:Nat) (c:AV) (u:Value),av.cells[i]?=some c→C[i]?=some u→Rel w R φ c u) {φ':Ph} (oe:∀b x,φ b=some x→φ' b=some x):
  iB (w.alloc (.cells C T)) R φ' (some ⟨w.heap.size,n,1⟩) ⟨T,n,[av]⟩:=by
 refine⟨rfl,hn,Nat.le_refl _,by simp [maxLen],C,heap_alloc_new w _,by simp [hC],fun i x hx=>?_⟩;cases i with
 |succ i=>simp at hx
 |zero=>
  simp at hx;subst hx;refine⟨ha,fun j c hc=>?_⟩;have hj:j<C.size:=by rw [hC,←ha];exact(List.getElem?_eq_some_iff.1 hc).1
  refine⟨C[j],by simp [hj],(hr j c C[j] hc (by simp [hj])).mono (fun n hn=>heap_alloc_old w _ n (eJ n hn)) (fun _ h=>h) oe⟩
theorem Yx (w:World) (ob:Obj):Ext w (w.alloc ob) (fun _=>False):=⟨rfl,rfl,rfl,Nat.le_refl _,by simp,fun i hi _=>heap_alloc_old w ob i hi⟩
theorem cz.box {c:Ctx} {φ:Ph} {R:Nat→Prop} {a:Act} {w:World} (h:cz c φ R s a w) (d:Nat) (ig:Fr s d) {T n:Nat} {C:Array Value} {av:AV} (hn:0<n) (hC:C.size=n) (ha:av.cells.length=n)
  (hr:∀(i:Nat) (c:AV) (u:Value),av.cells[i]?=some c→C[i]?=some u→Rel w R φ c u) (dst:Option Nat):
  cz c (φ.up d (some ⟨w.heap.size,n,1⟩)) R (s.app dst ⟨.ref d 0 0,[(d,some ⟨T,n,[av]⟩)],[],[d]⟩) (a.put dst (.pointer (some ⟨w.heap.size,0,none⟩))) (w.alloc (.cells C T)):=by
 have u9:φ d=none:=by
  cases hq:φ d with
  |none=>rfl
  |some y=>obtain⟨z,hz⟩:=h.fZ d y hq;rw [ig.1] at hz;cases hz
 have:=h.add d ig ⟨T,n,[av]⟩ ⟨w.heap.size,n,1⟩ (Yx w (.cells C T)) (Nat.le_refl _) (Yw h.Rb hn hC ha hr (Ph.Bb _ u9));refine cz.app this dst ?_;have e:=Rel.ref (w:=w.alloc (.cells C T)) (R:=R) (φ:=φ.up d (some ⟨w.heap.size,n,1⟩)) (b:=d) (i:=0) (off:=0) (h:=⟨w.heap.size,n,1⟩) (by simp [Ph.up]);simpa using e
theorem Yy {T d:Nat} {D:ae} (ho:o.op=.alloc T) (hT:az P T=some D) (hs:Nat.blt 0 D.size=true):
  cM P o s ⟨.ref d 0 0,[(d,some ⟨T,D.size,[D.zero]⟩)],[],[d]⟩:=by
 intro s' _ _ _ ji;refine tl fun c φ R a w h=>?_
 obtain⟨i,z,u,hi,hz,_,dj,_,hzero,iR,_⟩:=la hT;have hc:=xV w R φ z;refine⟨.pointer (some ⟨w.heap.size,0,none⟩),w.alloc (.cells z.cells T),φ.up d (some ⟨w.heap.size,D.size,1⟩),R,by simp [execOp,ho,Instr.alloc,zeroValue,typeInfo,hi,hz,newVar,newRow],?_⟩;exact h.box d (ji d (by simp)) (by simpa using hs) iR (by rw [hzero,hc.1,iR]) (by rw [hzero];exact hc.2) o.dst
theorem Yz {T d:Nat} {x:Operand} {D:ae} {v:AV} (ho:o.op=.box T x) (_hT:az P T=some D) (hx:s.ev x=v) (hv:v≠.bot) (hl:Nat.beq v.cells.length D.size=true) (hs:Nat.blt 0 D.size=true):
  cM P o s ⟨.ref d 0 0,[(d,some ⟨T,D.size,[v]⟩)],[],[d]⟩:=by
 intro s' _ bS _ ji;refine tl fun c φ R a w h=>?_
 have hr:=h.ev x;rw [bS x (by simp [ho,Op.operands]),hx] at hr;have hc:=hr.cells hv;have va:=Nat.eq_of_beq_eq_true hl;refine⟨.pointer (some ⟨w.heap.size,0,none⟩),w.alloc (.cells (a.eval x).cells T),φ.up d (some ⟨w.heap.size,D.size,1⟩),R,by simp [execOp,ho,Instr.box,newVar,newRow],?_⟩;exact h.box d (ji d (by simp)) (by simpa using hs) (by rw [←hc.1,va]) va hc.2 o.dst
def sub (cs:List AV):Nat→Nat→Option (List AV)
 |0,0=>some []
 |0,n+1=>match cs with
  |[]=>none
  |c::cs=>match sub cs 0 n with
   |some l=>some (c::l)
   |none=>none
 |off+1,n=>match cs with
  |[]=>none
  |_::cs=>sub cs off n
theorem xW:∀(cs:List AV) (off n:Nat) (l:List AV),sub cs off n=some l→l.length=n∧off+n≤cs.length∧∀j,j<n→l[j]?=cs[off+j]?
 |cs,0,0,l,h=>by simp [sub] at h;subst h;simp
 |[],0,n+1,l,h=>by simp [sub] at h
 |c::cs,0,n+1,l,h=>by
  simp only [sub] at h;cases hs:sub cs 0 n with
  |none=>simp [hs] at h
  |some l'=>
   simp [hs] at h;subst h;obtain⟨h1,h2,h3⟩:=xW cs 0 n l' hs;refine⟨by simp [h1],by simp;omega,fun j hj=>?_⟩;cases j with
   |zero=>simp
   |succ j=>simpa using h3 j (by omega)
 |[],off+1,n,l,h=>by simp [sub] at h
 |c::cs,off+1,n,l,h=>by
  simp only [sub] at h;obtain⟨h1,h2,h3⟩:=xW cs off n l h;refine⟨h1,by simp;omega,fun j hj=>?_⟩;have:=h3 j hj;rw [this,show off+1+j=(off+j)+1 by omega]
  simp
def rd (D:ae) (cs:List AV) (off:Nat):Option AV:=
 match D.k.isAgg with
 |true=>match sub cs off D.size with
  |some l=>some (.agg l)
  |none=>none
 |false=>match sub cs off 1 with
  |some [.bot]=>some .bot
  |some [.sc v]=>some (.sc v)
  |some [.bF]=>some .bF
  |some [.sl xs]=>some (.sl xs)
  |some [.vp xs]=>some (.vp xs)
  |some [.ref b i f]=>some (.ref b i f)
  |some [.arr b i f]=>some (.arr b i f)
  |some [.cE b i f]=>some (.cE b i f)
  |_=>none
theorem Nn {D:ae} {cs:List AV} {off:Nat} {v:AV} (hk:D.k.isAgg=false) (h:rd D cs off=some v):cs[off]?=some v:=by
 unfold rd at h;rw [hk] at h;dsimp only at h;cases hs:sub cs off 1 with
 |none=>simp [hs] at h
 |some l=>
  obtain⟨h1,h2,h3⟩:=xW cs off 1 l hs;have No:=h3 0 (by omega)
  match l,h1 with
  |[x],_=>
   simp at No;rw [hs] at h;rw [←No];cases x<;>simp at h<;>simp [h]
theorem Ib {w:World} {R:Nat→Prop} {φ:Ph} {T b o:Nat} {D:ae} {cs:List AV} {v:AV} {off:Nat} (hT:az P T=some D) (hv:rd D cs off=some v)
  (f:Nat→Value) (hc:∀j,j<cs.length→w.cell? ⟨b,o+j,none⟩=some (f j)) (hr:∀(j:Nat) (c:AV),cs[j]?=some c→Rel w R φ c (f j)):
  ∃u,(loadVar T ⟨b,o+off,none⟩).run P w=.ok u w∧Rel w R φ v u:=by
 cases hk:D.k.isAgg with
 |true=>
  unfold rd at hv;rw [hk] at hv;dsimp only at hv;cases hs:sub cs off D.size with
  |none=>simp [hs] at hv
  |some l=>
   simp [hs] at hv;subst hv;obtain⟨h1,h2,h3⟩:=xW cs off D.size l hs
   have hl:=run_loadCells (P:=P) w ⟨b,o+off,none⟩ D.size (fun j=>f (off+j)) (fun j hj=>by
    rw [q7,Nat.add_assoc];exact hc (off+j) (by omega))
   refine⟨.agg ((List.range D.size).map fun j=>f (off+j)).toArray,by simp [loadVar,EO hT,hk,run_sizeOf hT,hl],.agg (by simp [h1]) fun i c u hi hu=>?_⟩;have bB:i<D.size:=by rw [←h1];exact(List.getElem?_eq_some_iff.1 hi).1
   simp [bB] at hu;subst hu;rw [h3 i bB] at hi;exact hr _ _ hi
 |false=>
  have h1:=Nn hk hv;refine⟨f off,?_,hr off v h1⟩;have:=hc off (List.getElem?_eq_some_iff.1 h1).1;simp [loadVar,EO hT,hk,this]
theorem YA {T:Nat} {x:Operand} {D:ae} {cs:List AV} {v:AV} (ho:o.op=.load T x) (hT:az P T=some D) (hx:s.ev x=.vp cs) (hv:rd D cs 0=some v):cM P o s ⟨v,[],[],[]⟩:=by
 intro s' _ bS _ _;refine f_ fun c φ R a w hs=>?_
 have h1:=hs.ev x;rw [bS x (by simp [ho,Op.operands]),hx] at h1;generalize hq:a.eval x=q at h1;cases h1 with
 |vp f hR hc hr=>
  obtain⟨u,h2,h3⟩:=Ib (off:=0) hT hv f hc hr;refine⟨u,by simp only [Nat.add_zero] at h2;simp [execOp,ho,hq,Instr.loadAt,Instr.sureAddr,h2],h3.mono (fun _ _=>rfl) (fun _ h=>h) (fun b x hb=>by simp [Ph.no] at hb)⟩
theorem Np {T b i off:Nat} {x:Operand} {D:ae} {k:eI} {e v:AV} (ho:o.op=.load T x) (hT:az P T=some D) (hx:s.ev x=.ref b i off) (hb:lk b s.m=some (some k)) (he:k.xs[i]?=some e) (hv:rd D e.cells off=some v):
  cM P o s ⟨v,[],[b],[]⟩:=by
 intro s' _ bS fE _;refine f_ fun c φ R a w hs=>?_
 have h1:=hs.ev x;rw [bS x (by simp [ho,Op.operands]),hx] at h1;generalize hq:a.eval x=q at h1;cases h1 with
 |@ref _ _ _ _ h fO=>
  obtain⟨oh,fF,hr⟩:=hs.m.rel b k (by rw [fE b (by simp)];exact hb);rw [fO] at fF;cases fF;obtain⟨_,_,_,_,C,hC,EP,iS⟩:=hr;obtain⟨hl,oi⟩:=iS i e he
  obtain⟨u,h2,h3⟩:=Ib (P:=P) (w:=w) (R:=R) (φ:=φ) (b:=h.cA) (o:=i*h.bW) (off:=off) hT hv (fun j=>C[i*h.bW+j]?.getD undef) (fun j hj=>by
    obtain⟨u,hu,_⟩:=oi j (e.cells[j]) (by simp [hj]);rw [cell_of_row w _ _ C _ _ hC,hu];rfl) (fun j c' Ic=>by
    obtain⟨u,hu,gL⟩:=oi j c' Ic;rw [hu];exact gL)
  exact⟨u,by simp [execOp,ho,hq,Instr.loadAt,Instr.sureAddr,h2],h3⟩
end
def mA (cs:List AV):Nat→List AV→Option (List AV)
 |0,[]=>some cs
 |0,v::vs=>match cs with
  |[]=>none
  |_::cs=>match mA cs 0 vs with
   |some l=>some (v::l)
   |none=>none
 |off+1,vs=>match cs with
  |[]=>none
  |c::cs=>match mA cs off vs with
   |some l=>some (c::l)
   |none=>none
theorem ER:∀(off:Nat) (cs vs l:List AV),mA cs off vs=some l→l.length=cs.length∧off+vs.length≤cs.length∧∀j:Nat,l[j]?=if off≤j∧j<off+vs.length then vs[j -off]?else cs[j]?
 |0,cs,[],l,h=>by
  simp [mA] at h;subst h;refine⟨rfl,by simp,fun j=>?_⟩;rw [if_neg (by simp)]
 |0,[],v::vs,l,h=>by simp [mA] at h
 |0,c::cs,v::vs,l,h=>by
  simp only [mA] at h;cases hs:mA cs 0 vs with
  |none=>simp [hs] at h
  |some l'=>
   simp [hs] at h;subst h;obtain⟨h1,h2,h3⟩:=ER 0 cs vs l' hs;refine⟨by simp [h1],by simp;omega,fun j=>?_⟩;cases j with
   |zero=>simp
   |succ j=>
    simp only [List.getElem?_cons_succ,h3 j,List.length_cons,Nat.zero_le,true_and,Nat.zero_add,Nat.add_lt_add_iff_right,Nat.sub_zero]
 |off+1,[],vs,l,h=>by simp [mA] at h
 |off+1,c::cs,vs,l,h=>by
  simp only [mA] at h;cases hs:mA cs off vs with
  |none=>simp [hs] at h
  |some l'=>
   simp [hs] at h;subst h;obtain⟨h1,h2,h3⟩:=ER off cs vs l' hs;refine⟨by simp [h1],by simp;omega,fun j=>?_⟩;cases j with
   |zero=>simp
   |succ j=>
    simp only [List.getElem?_cons_succ,h3 j];by_cases hj:off≤j∧j<off+vs.length
    ·rw [if_pos hj,if_pos (by omega),show j+1 -(off+1)=j -off by omega]
    ·rw [if_neg hj,if_neg (by omega)]
def Ie (off:Nat) (vs:List AV):Option AV:=match off,vs with
 |0,[c]=>some c
 |_,_=>none
def tm (e:AV) (off:Nat) (vs:List AV):Option AV:=
 match e with
 |.agg cs=>match mA cs off vs with
  |some l=>some (.agg l)
  |none=>none
 |_=>Ie off vs
theorem cells_one {c:AV} (h:c.k_=true):c.cells=[c]:=by cases c<;>simp_all [AV.k_,AV.cells]
theorem YB {e e':AV} {off:Nat} {vs:List AV} (h:tm e off vs=some e') (hc:∀c∈vs,c.k_=true):
  e'.cells.length=e.cells.length∧off+vs.length≤e.cells.length∧∀j:Nat,e'.cells[j]?=if off≤j∧j<off+vs.length then vs[j -off]?else e.cells[j]?:=by
 have one:e.cells=[e]→Ie off vs=some e'→
   e'.cells.length=e.cells.length∧off+vs.length≤e.cells.length∧∀j:Nat,e'.cells[j]?=if off≤j∧j<off+vs.length then vs[j -off]?else e.cells[j]?:=by
  intro he h;unfold Ie at h;split at h
  ·rename_i c;cases h;rw [he,cells_one (hc e' (by simp))];refine⟨rfl,by simp,fun j=>?_⟩;cases j with
   |zero=>simp
   |succ j=>simp
  ·cases h
 cases e with
 |agg cs=>
  simp only [tm] at h;cases hs:mA cs off vs with
  |none=>simp [hs] at h
  |some l=>
   simp [hs] at h;subst h;exact ER off cs vs l hs
 |_=>exact one rfl h
theorem xX (l vs:List Value) (p:Nat) (h:p+vs.length≤l.length) (q:Nat):
  (l.take p++vs++l.drop (p+vs.length)).toArray[q]?=if p≤q∧q<p+vs.length then vs[q -p]?else l[q]?:=by
 simp only [List.getElem?_toArray];have hp:(l.take p).length=p:=by simp;omega
 by_cases h1:q<p
 ·rw [if_neg (by omega),List.append_assoc,List.getElem?_append_left (by omega),List.getElem?_take,if_pos h1]
 ·by_cases h2:q<p+vs.length
  ·rw [if_pos (by omega),List.append_assoc,List.getElem?_append_right (by omega),hp,List.getElem?_append_left (by omega)]
  ·rw [if_neg (by omega),List.append_assoc,List.getElem?_append_right (by omega),hp,List.getElem?_append_right (by omega),List.getElem?_drop];congr 1;omega
theorem Ig (l vs:List Value) (p:Nat) (h:p+vs.length≤l.length):(l.take p++vs++l.drop (p+vs.length)).toArray.size=l.length:=by
 simp only [List.size_toArray,List.length_append,List.length_take,List.length_drop];omega
theorem YC {i i' e j off n:Nat} (ep:i'≠i) (hj:j<e) (hn:off+n≤e):¬(i*e+off≤i'*e+j∧i'*e+j<i*e+off+n):=by
 rcases Nat.lt_or_gt_of_ne ep with h|h
 ·have:=Nat.mul_le_mul_right e (show i'+1≤i from h)
  rw [Nat.add_mul,Nat.one_mul] at this;omega
 ·have:=Nat.mul_le_mul_right e (show i+1≤i' from h)
  rw [Nat.add_mul,Nat.one_mul] at this;omega
theorem tn {i cap e j:Nat} (hi:i<cap) (hj:j<e):i*e+j<cap*e:=by
 have:=Nat.mul_le_mul_right e (show i+1≤cap from hi)
 rw [Nat.add_mul,Nat.one_mul] at this;omega
section
variable{P:Program} {o:Oper} {s:St}
theorem YD {w:World} {R:Nat→Prop} {φ:Ph} {x:Home} {k:eI} {i off:Nat} {e e':AV} {vs:List AV} {us:List Value} (h:iB w R φ (some x) k) (lC:¬R x.cA) (he:k.xs[i]?=some e)
  (hu:tm e off vs=some e') (hc:∀c∈vs,c.k_=true) (hl:vs.length=us.length) (hr:∀(j:Nat) (c:AV) (u:Value),vs[j]?=some c→us[j]?=some u→Rel w R φ c u):
  ∃C',(storeCells ⟨x.cA,i*x.bW+off,none⟩ us).run P w=.ok () (w.setRow x.cA C')∧iB (w.setRow x.cA C') R φ (some x) {k with xs:=k.xs.set i e'}:=by
 obtain⟨h1,h2,h3,h4,C,hC,hs,iS⟩:=h;obtain⟨u1,u2,u3⟩:=YB hu hc;obtain⟨hle,oi⟩:=iS i e he;have hi:i<k.xs.length:=(List.getElem?_eq_some_iff.1 he).1
 have lD:i*x.bW+off+us.length≤C.toList.length:=by
  have ES:C.toList.length=C.size:=by simp
  rw [ES,hs];have:=Nat.mul_le_mul_right x.bW (show i+1≤x.cap by omega)
  rw [Nat.add_mul,Nat.one_mul] at this;omega
 have YE:∀v∈us,v.oneCell'=true:=by
  intro v hv;obtain⟨j,hj,ET⟩:=List.mem_iff_getElem.1 hv;have:=hr j (vs[j]'(by omega)) v (by simp [hl,hj]) (by rw [List.getElem?_eq_getElem hj,ET])
  exact this.H' (hc _ (List.getElem_mem _))
 refine⟨_,run_storeCells_at (P:=P) x.cA (i*x.bW+off) k.ty us 0 C w hC (by simpa using lD) YE,h1,h2,by simpa using h3,h4,_,setRow_heap w x.cA C _ k.ty _ hC,?_,?_⟩
 ·rw [Nat.add_zero,Ig _ _ _ lD,←hs];simp
 ·intro i' y hy;rw [Nat.add_zero];have hw:∀n,R n→(w.setRow x.cA ((C.toList.take (i*x.bW+off)++us++C.toList.drop (i*x.bW+off+us.length)).toArray)).heap[n]?=w.heap[n]?:=fun n hn=>setRow_other w x.cA n _ (fun e=>lC (e▸hn))
  by_cases Ih:i'=i
  ·subst Ih;have kC:y=e':=by simpa [hi] using hy.symm
   subst kC;refine⟨by rw [u1,hle],fun j c tp=>?_⟩;rw [u3 j] at tp;rw [xX _ _ _ lD];by_cases hj:off≤j∧j<off+vs.length
   ·rw [if_pos hj] at tp;have eR:j -off<us.length:=by omega
    refine⟨us[j -off],?_,(hr (j -off) c us[j -off] tp (by simp [eR])).mono hw (fun _ h=>h) (fun _ _ h=>h)⟩;rw [if_pos (by omega),show i'*x.bW+j -(i'*x.bW+off)=j -off by omega]
    simp [eR]
   ·rw [if_neg hj] at tp;obtain⟨u,pY,gL⟩:=oi j c tp;refine⟨u,?_,gL.mono hw (fun _ h=>h) (fun _ _ h=>h)⟩;rw [if_neg (by omega),Array.getElem?_toList];exact pY
  ·rw [List.getElem?_set_ne (Ne.symm Ih)] at hy;obtain⟨YF,YG⟩:=iS i' y hy;refine⟨YF,fun j c tp=>?_⟩;obtain⟨u,pY,gL⟩:=YG j c tp;have eR:j<y.cells.length:=(List.getElem?_eq_some_iff.1 tp).1;refine⟨u,?_,gL.mono hw (fun _ h=>h) (fun _ _ h=>h)⟩;rw [xX _ _ _ lD,if_neg (YC Ih (by omega) (by omega)),Array.getElem?_toList];exact pY
theorem Nq {T b i off:Nat} {x y:Operand} {D:ae} {k:eI} {e e' v:AV} (ho:o.op=.store T x y) (hT:az P T=some D) (hx:s.ev x=.ref b i off) (hb:lk b s.m=some (some k)) (hy:s.ev y=v) (hv:v≠.bot)
  (hl:Nat.beq v.cells.length D.size=true) (hc:v.cells.all AV.k_=true) (he:k.xs[i]?=some e) (hu:tm e off v.cells=some e'):
  cM P o s ⟨.bR [],[(b,some {k with xs:=k.xs.set i e'})],[b],[]⟩:=by
 intro s' _ bS fE _;refine Ys fun c φ R a w hs=>?_
 have h1:=hs.ev x;rw [bS x (by simp [ho,Op.operands]),hx] at h1;have h2:=hs.ev y;rw [bS y (by simp [ho,Op.operands]),hy] at h2;generalize hq:a.eval x=q at h1;cases h1 with
 |@ref _ _ _ _ h fO=>
  have gH:lk b s'.m=some (some k):=by rw [fE b (by simp)];exact hb
  obtain⟨oh,fF,hr⟩:=hs.m.rel b k gH;rw [fO] at fF;cases fF;obtain⟨c1,c2⟩:=h2.cells hv;obtain⟨C',fG,gM⟩:=YD (P:=P) hr (hs.m.fA b k h gH fO) he hu (by simpa using hc) (us:=(a.eval y).cells.toList) (by simpa using c1) (fun j c' u h3 h4=>c2 j c' u h3 (by simpa using h4));have dj:(a.eval y).cells.size=D.size:=by rw [←c1];exact Nat.eq_of_beq_eq_true hl
  refine⟨w.setRow h.cA C',φ,R,by simp [execOp,ho,hq,Instr.storeAt,Instr.sureAddr,storeVar,run_sizeOf hT,dj,fG],?_⟩;exact cz.app (s:=s') (hs.write gH fO C' gM) o.dst (.bR rfl (by simp))
theorem Nr {t:Nat} {D:ae} {fs:List (Nat×Nat)} (h:az P t=some D) (hk:D.k=.struct fs):∃F:Array Field,P.underlying t=some (.struct F)∧∀(j fo fz:Nat),fs[j]?=some (fo,fz)→∃f,F[j]?=some f∧f.offset=fo∧P.cellsOf f.type=fz:=by
 obtain⟨i,z,u,_,_,hu,_,_,_,_,gM⟩:=la h;rw [hk] at gM;cases u<;>simp [kindOf] at gM
 rename_i F;refine⟨F,hu,fun j fo fz hj=>?_⟩;rw [gM,List.getElem?_map] at hj;cases hf:F[j]?with
 |none=>rw [Array.getElem?_toList,hf] at hj;simp at hj
 |some f=>
  rw [Array.getElem?_toList,hf] at hj;simp at hj;exact⟨f,rfl,hj.1,hj.2⟩
theorem YH {t n:Nat} (h:P.cellsOf t=n) (hn:0<n) (w:World):(sizeOf t).run P w=.ok n w:=by
 unfold Program.cellsOf at h;cases hi:P.info? t with
 |none=>simp [hi] at h;omega
 |some i=>simp [hi] at h;simp [sizeOf,typeInfo,hi,h]
theorem Ns {t j fo fz b off:Nat} {D:ae} {fs:List (Nat×Nat)} (h:az P t=some D) (hk:D.k=.struct fs) (hj:fs[j]?=some (fo,fz)) (hz:0<fz) (w:World):
  (Instr.fieldAt t (.pointer (some ⟨b,off,none⟩)) j).run P w=.ok (.pointer (some ⟨b,off+fo,none⟩)) w:=by
 obtain⟨F,hu,hF⟩:=Nr h hk;obtain⟨f,hf,rfl,h2⟩:=hF j fo fz hj;have:=YH h2 hz w;simp [Instr.fieldAt,run_underlying hu,hf,Instr.sureAddr,fieldPlace,this,Nat.ne_of_gt hz,q7]
theorem YI {t j fo fz b i off:Nat} {x:Operand} {D:ae} {fs:List (Nat×Nat)} (ho:o.op=.fieldAddr t x j) (h:az P t=some D) (hk:D.k=.struct fs) (hj:fs[j]?=some (fo,fz)) (hz:Nat.blt 0 fz=true) (hx:s.ev x=.ref b i off):
  cM P o s ⟨.ref b i (off+fo),[],[],[]⟩:=by
 intro s' _ bS _ _;refine f_ fun c φ R a w hs=>?_
 have h1:=hs.ev x;rw [bS x (by simp [ho,Op.operands]),hx] at h1;generalize hq:a.eval x=q at h1;cases h1 with
 |@ref _ _ _ _ hm fO=>
  refine⟨.pointer (some ⟨hm.cA,i*hm.bW+off+fo,none⟩),by simp [execOp,ho,hq,Ns h hk hj (by simpa using hz)],?_⟩;have:=Rel.ref (w:=w) (R:=R) (i:=i) (off:=off+fo) fO;rwa [←Nat.add_assoc] at this
def kD (cs:List AV):Nat→Option (List AV)
 |0=>some cs
 |n+1=>match cs with
  |[]=>none
  |_::cs=>kD cs n
theorem Ii:∀(n:Nat) (cs l:List AV),kD cs n=some l→l=cs.drop n∧n≤cs.length
 |0,cs,l,h=>by simp [kD] at h;subst h;simp
 |n+1,[],l,h=>by simp [kD] at h
 |n+1,c::cs,l,h=>by
  simp only [kD] at h;obtain⟨h1,h2⟩:=Ii n cs l h;exact⟨by simpa using h1,by simp;omega⟩
theorem Ij {w:World} {R:Nat→Prop} {φ:Ph} {cs l:List AV} {n b off:Nat} (h:Rel w R φ (.vp cs) (.pointer (some ⟨b,off,none⟩))) (hl:kD cs n=some l):Rel w R φ (.vp l) (.pointer (some ⟨b,off+n,none⟩)):=by
 obtain⟨rfl,hn⟩:=Ii n cs l hl;cases h with
 |vp f hR hc hr=>
  refine .vp (fun k=>f (n+k)) hR (fun k hk=>?_) (fun j c hj=>hr _ _ (by simpa using hj));rw [Nat.add_assoc];exact hc _ (by simp at hk;omega)
theorem YJ {t j fo fz:Nat} {x:Operand} {D:ae} {fs:List (Nat×Nat)} {cs l:List AV} (ho:o.op=.fieldAddr t x j) (h:az P t=some D) (hk:D.k=.struct fs) (hj:fs[j]?=some (fo,fz)) (hz:Nat.blt 0 fz=true) (hx:s.ev x=.vp cs) (hl:kD cs fo=some l):
  cM P o s ⟨.vp l,[],[],[]⟩:=by
 intro s' _ bS _ _;refine f_ fun c φ R a w hs=>?_
 have h1:=hs.ev x;rw [bS x (by simp [ho,Op.operands]),hx] at h1;generalize hq:a.eval x=q at h1;have om:=h1;cases h1 with
 |@vp _ _ b off f hR hc hr=>
  exact⟨.pointer (some ⟨b,off+fo,none⟩),by simp [execOp,ho,hq,Ns h hk hj (by simpa using hz)],Ij om hl⟩
theorem pg {t e:Nat} {D:ae} (h:az P t=some D) (hk:D.k=.slice e):P.underlying t=some (.slice e):=by
 obtain⟨i,z,u,_,_,hu,_,_,_,_,gM⟩:=la h;rw [hk] at gM;cases u<;>simp [kindOf] at gM
 subst gM;exact hu
theorem EU {t n e:Nat} {D:ae} (h:az P t=some D) (hk:D.k=.array n e):P.underlying t=some (.array n e):=by
 obtain⟨i,z,u,_,_,hu,_,_,_,_,gM⟩:=la h;rw [hk] at gM;cases u<;>simp [kindOf] at gM
 obtain⟨rfl,rfl⟩:=gM;exact hu
theorem run_indexAt_slice {t e a0 o0 len cap:Nat} {D E:ae} {k:IntKind} {i:Int} (h:az P t=some D) (hk:D.k=.slice e) (hE:az P e=some E) (kE:0≤i) (hi:i<len) (w:World):
  (Instr.indexAt t (.slice (some ⟨a0,o0,none⟩) len cap) (.int k i)).run P w=.ok (.pointer (some ⟨a0,o0+i.toNat*E.size,none⟩)) w:=by
 simp [Instr.indexAt,asIntOf,run_underlying (pg h hk),run_sizeOf hE,kE,hi,q7]
theorem Nt {t e:Nat} {x y:Operand} {D E:ae} {k:IntKind} {i:Int} {xs:List AV} {ev:AV} (ho:o.op=.indexAddr t x y) (h:az P t=some D) (hk:D.k=.slice e) (hE:az P e=some E) (hx:s.ev x=.sl xs) (hy:s.ev y=.sc (.int k i))
  (kE:0≤i) (he:xs[i.toNat]?=some ev) (hl:Nat.beq ev.cells.length E.size=true):cM P o s ⟨.vp ev.cells,[],[],[]⟩:=by
 intro s' _ bS _ _;refine f_ fun c φ R a w hs=>?_
 have h1:=hs.ev x;rw [bS x (by simp [ho,Op.operands]),hx] at h1;have h2:=hs.ev y;rw [bS y (by simp [ho,Op.operands]),hy] at h2;have h2:=h2.gI;have bB:i.toNat<xs.length:=(List.getElem?_eq_some_iff.1 he).1;have hi:i<(xs.length:Int):=by omega
 generalize hq:a.eval x=q at h1;cases h1 with
 |jG=>simp at bB
 |@sl _ _ b off cap e' f hep hR lZ va hc hr=>
  have vb:E.size=e':=by rw [←va _ _ he];exact(Nat.eq_of_beq_eq_true hl).symm
  refine⟨.pointer (some ⟨b,off+i.toNat*E.size,none⟩),by simp [execOp,ho,hq,h2,run_indexAt_slice h hk hE kE hi],?_⟩;refine .vp (fun j=>f (i.toNat*e'+j)) hR (fun j hj=>?_) (fun j c hj=>hr _ _ _ _ he hj);rw [vb,Nat.add_assoc];rw [va _ _ he] at hj;exact hc _ (tn bB hj)
theorem Ik {t e b off len:Nat} {x y:Operand} {D E:ae} {k:IntKind} {i:Int} {bk:eI} (ho:o.op=.indexAddr t x y) (h:az P t=some D) (hk:D.k=.slice e) (hE:az P e=some E) (hx:s.ev x=.arr b off len) (hy:s.ev y=.sc (.int k i))
  (hb:lk b s.m=some (some bk)) (hz:Nat.beq bk.bW E.size=true) (kE:0≤i) (hi:i<len):cM P o s ⟨.ref b (off+i.toNat) 0,[],[b],[]⟩:=by
 intro s' _ bS fE _;refine f_ fun c φ R a w hs=>?_
 have h1:=hs.ev x;rw [bS x (by simp [ho,Op.operands]),hx] at h1;have h2:=hs.ev y;rw [bS y (by simp [ho,Op.operands]),hy] at h2;have h2:=h2.gI;generalize hq:a.eval x=q at h1;cases h1 with
 |kg=>omega
 |@arr _ _ _ _ cap hm fO hl hc=>
  obtain⟨oh,fF,hr⟩:=hs.m.rel b bk (by rw [fE b (by simp)];exact hb);rw [fO] at fF;cases fF;obtain⟨jj,_⟩:=hr;have Bc:E.size=hm.bW:=by rw [←jj];exact(Nat.eq_of_beq_eq_true hz).symm
  refine⟨.pointer (some ⟨hm.cA,off*hm.bW+i.toNat*E.size,none⟩),by simp [execOp,ho,hq,h2,run_indexAt_slice h hk hE kE hi],?_⟩;have:=Rel.ref (w:=w) (R:=R) (i:=off+i.toNat) (off:=0) fO;rw [Nat.add_mul,Nat.add_zero] at this;rw [Bc];exact this
theorem run_indexAt_array {t n e a0 o0:Nat} {D E:ae} {k:IntKind} {i:Int} (h:az P t=some D) (hk:D.k=.array n e) (hE:az P e=some E) (kE:0≤i) (hi:i<n) (w:World):
  (Instr.indexAt t (.pointer (some ⟨a0,o0,none⟩)) (.int k i)).run P w=.ok (.pointer (some ⟨a0,o0+i.toNat*E.size,none⟩)) w:=by
 simp [Instr.indexAt,asIntOf,run_underlying (EU h hk),run_sizeOf hE,kE,hi,q7,Instr.sureAddr]
theorem YK {t n e b j off:Nat} {x y:Operand} {D E:ae} {k:IntKind} {i:Int} (ho:o.op=.indexAddr t x y) (h:az P t=some D) (hk:D.k=.array n e) (hE:az P e=some E) (hx:s.ev x=.ref b j off) (hy:s.ev y=.sc (.int k i))
  (kE:0≤i) (hi:i<n):cM P o s ⟨.ref b j (off+i.toNat*E.size),[],[],[]⟩:=by
 intro s' _ bS _ _;refine f_ fun c φ R a w hs=>?_
 have h1:=hs.ev x;rw [bS x (by simp [ho,Op.operands]),hx] at h1;have h2:=hs.ev y;rw [bS y (by simp [ho,Op.operands]),hy] at h2;have h2:=h2.gI;generalize hq:a.eval x=q at h1;cases h1 with
 |@ref _ _ _ _ hm fO=>
  refine⟨.pointer (some ⟨hm.cA,j*hm.bW+off+i.toNat*E.size,none⟩),by simp [execOp,ho,hq,h2,run_indexAt_array h hk hE kE hi],?_⟩;have:=Rel.ref (w:=w) (R:=R) (i:=j) (off:=off+i.toNat*E.size) fO;rwa [←Nat.add_assoc] at this
theorem YL {t n e:Nat} {x y:Operand} {D E:ae} {k:IntKind} {i:Int} {cs l:List AV} (ho:o.op=.indexAddr t x y) (h:az P t=some D) (hk:D.k=.array n e) (hE:az P e=some E) (hx:s.ev x=.vp cs) (hy:s.ev y=.sc (.int k i))
  (kE:0≤i) (hi:i<n) (hl:kD cs (i.toNat*E.size)=some l):cM P o s ⟨.vp l,[],[],[]⟩:=by
 intro s' _ bS _ _;refine f_ fun c φ R a w hs=>?_
 have h1:=hs.ev x;rw [bS x (by simp [ho,Op.operands]),hx] at h1;have h2:=hs.ev y;rw [bS y (by simp [ho,Op.operands]),hy] at h2;have h2:=h2.gI;generalize hq:a.eval x=q at h1;have om:=h1;cases h1 with
 |@vp _ _ b off f hR hc hr=>
  exact⟨.pointer (some ⟨b,off+i.toNat*E.size,none⟩),by simp [execOp,ho,hq,h2,run_indexAt_array h hk hE kE hi],Ij om hl⟩
end
section
variable{P:Program} {o:Oper} {s:St}
theorem YM (vs:Array Value) (off:Nat) (cells:Array Value) (h:off+vs.size≤cells.size) (q:Nat):
  (vs.zipIdx.foldl (fun cs (c,j)=>cs.setIfInBounds (off+j) c) cells)[q]?=if off≤q∧q<off+vs.size then vs[q -off]?else cells[q]?:=by
 obtain⟨l⟩:=vs;simp only [List.size_toArray] at h
 have key:∀(l:List Value) (n:Nat) (cells:Array Value),off+n+l.length≤cells.size→
   ((l.zipIdx n).foldl (fun(cs:Array Value) (p:Value×Nat)=>cs.setIfInBounds (off+p.2) p.1) cells)[q]?=if off+n≤q∧q<off+n+l.length then l[q -(off+n)]?else cells[q]?:=by
  intro l
  induction l with
  |nil=>intro n cells _;simp;intro h1 h2;omega
  |cons v l ih=>
   intro n cells hl;simp only [List.length_cons] at hl;simp only [List.zipIdx_cons,List.foldl_cons];rw [ih (n+1) _ (by simp;omega)];by_cases h1:off+(n+1)≤q∧q<off+(n+1)+l.length
   ·rw [if_pos h1,if_pos (by simp;omega),show q -(off+n)=(q -(off+(n+1)))+1 by omega]
    simp
   ·rw [if_neg h1];by_cases h2:q=off+n
    ·subst h2;rw [if_pos (by simp)];simp [show off+n<cells.size by omega]
    ·rw [if_neg (by simp;omega),Array.getElem?_setIfInBounds_ne (by omega)]
 have:=key l 0 cells (by simpa using h);simp only [Nat.add_zero] at this;simp only [List.size_toArray,List.getElem?_toArray];rw [←this];simp
theorem YN (vs:Array Value) (off:Nat) (cells:Array Value):(vs.zipIdx.foldl (fun cs (c,j)=>cs.setIfInBounds (off+j) c) cells).size=cells.size:=by
 obtain⟨l⟩:=vs
 have key:∀(l:List Value) (n:Nat) (cells:Array Value),((l.zipIdx n).foldl (fun(cs:Array Value) (p:Value×Nat)=>cs.setIfInBounds (off+p.2) p.1) cells).size=cells.size:=by
  intro l
  induction l with
  |nil=>intro n cells;rfl
  |cons v l ih=>intro n cells;simp [List.zipIdx_cons,ih]
 simpa using key l 0 cells
def nC (place:Nat→Option (Nat×Nat)) (cs:List AV):List (Nat×AV)→Option (List AV)
 |[]=>some cs
 |(i,v)::rest=>match place i with
  |none=>none
  |some (off,size)=>match v with
   |.bot=>none
   |v=>match Nat.beq v.cells.length size with
    |false=>none
    |true=>match mA cs off v.cells with
     |none=>none
     |some l=>nC place l rest
theorem EV {w:World} {R:Nat→Prop} {φ:Ph} {place:Nat→Option (Nat×Nat)}:∀(parts:List (Nat×AV)) (cs l:List AV) (vd:List (Nat×Value)) (cells:Array Value),
  nC place cs parts=some l→parts.length=vd.length→(∀(j:Nat) (p:Nat×AV) (q:Nat×Value),parts[j]?=some p→vd[j]?=some q→p.1=q.1∧Rel w R φ p.2 q.2)→
  cs.length=cells.size→(∀(j:Nat) (c:AV) (u:Value),cs[j]?=some c→cells[j]?=some u→Rel w R φ c u)→
  ∃out,Instr.fill place cells vd=some out∧l.length=out.size∧∀(j:Nat) (c:AV) (u:Value),l[j]?=some c→out[j]?=some u→Rel w R φ c u
 |[],cs,l,vd,cells,h,hl,_,hs,hr=>by
  simp [nC] at h;subst h;cases vd with
  |nil=>exact⟨cells,rfl,hs,hr⟩
  |cons q vs=>simp at hl
 |(i,v)::rest,cs,l,vd,cells,h,hl,hp,hs,hr=>by
  cases vd with
  |nil=>simp at hl
  |cons q vs=>
   obtain⟨i',u⟩:=q;obtain⟨hi,hv⟩:=hp 0 (i,v) (i',u) rfl rfl;dsimp only at hi hv;subst hi;simp only [nC] at h;cases kF:place i with
   |none=>simp [kF] at h
   |some p=>
    obtain⟨off,size⟩:=p;simp only [kF] at h
    have hb:v≠.bot:=by
     intro e;subst e;simp at h
    have h':(match Nat.beq v.cells.length size with
     |false=>none
     |true=>match mA cs off v.cells with
      |none=>none
      |some l=>nC place l rest)=some l:=by
     cases v<;>first|exact absurd rfl hb|exact h
    cases hz:Nat.beq v.cells.length size with
    |false=>simp [hz] at h'
    |true=>
     simp only [hz] at h';cases rY:mA cs off v.cells with
     |none=>simp [rY] at h'
     |some l1=>
      simp only [rY] at h';obtain⟨s1,s2,s3⟩:=ER off cs v.cells l1 rY;obtain⟨c1,c2⟩:=hv.cells hb;have jk:=Nat.eq_of_beq_eq_true hz
      obtain⟨out,g1,g2,g3⟩:=EV rest l1 l vs (u.cells.zipIdx.foldl (fun cs (c,j)=>cs.setIfInBounds (off+j) c) cells) h' (by simpa using hl)
       (fun j p q h1 h2=>hp (j+1) p q (by simpa using h1) (by simpa using h2)) (by rw [YN,s1,hs]) (fun j c u' h1 h2=>by
        rw [s3 j] at h1;rw [YM _ _ _ (by omega),←c1] at h2;by_cases hj:off≤j∧j<off+v.cells.length
        ·rw [if_pos hj] at h1 h2;exact c2 _ _ _ h1 h2
        ·rw [if_neg hj] at h1 h2;exact hr _ _ _ h1 h2)
      refine⟨out,?_,g2,g3⟩;simp only [Instr.fill,kF];rw [if_neg (by simp;omega)];exact g1
def oq (s:St):List (Nat×Operand)→List (Nat×AV)
 |[]=>[]
 |(i,x)::l=>(i,s.ev x)::oq s l
theorem Nu (s:St) (l:List (Nat×Operand)):oq s l=l.map fun p=>(p.1,s.ev p.2):=by
 induction l with
 |nil=>rfl
 |cons p l ih=>obtain⟨i,x⟩:=p;simp [oq,ih]
theorem Il {c:Ctx} {φ:Ph} {R:Nat→Prop} {s':St} {a:Act} {w:World} (hs:cz c φ R s' a w) (parts:Array (Nat×Operand)) (bS:∀p∈parts.toList,s'.ev p.2=s.ev p.2):
  (oq s parts.toList).length=(parts.map fun(i,x)=>(i,a.eval x)).toList.length∧
  ∀(j:Nat) (p:Nat×AV) (q:Nat×Value),(oq s parts.toList)[j]?=some p→(parts.map fun(i,x)=>(i,a.eval x)).toList[j]?=some q→p.1=q.1∧Rel w R φ p.2 q.2:=by
 refine⟨by simp [Nu],fun j p q h1 h2=>?_⟩;rw [Nu,List.getElem?_map] at h1;rw [Array.getElem?_toList,Array.getElem?_map,←Array.getElem?_toList] at h2;cases hp:parts.toList[j]?with
 |none=>rw [hp] at h1;simp at h1
 |some r=>
  rw [hp] at h1 h2;simp at h1 h2;subst h1;subst h2;refine⟨rfl,?_⟩;have:=hs.ev r.2;rwa [bS r (List.mem_of_getElem? hp)] at this
theorem Nv {t:Nat} {parts:Array (Nat×Operand)} (ho:o.op=.build t parts):∀p∈parts.toList,p.2∈o.op.operands.toList:=by
 intro p hp;simp only [ho,Op.operands];simp;exact⟨p.1,by simpa using hp⟩
theorem YO {t:Nat} {D:ae} {fs:List (Nat×Nat)} {parts:List (Nat×Value)} {out:Array Value} (h:az P t=some D) (hk:D.k=.struct fs) (hz:∀p∈fs,0<p.2) {z:Value} {i:TypeInfo} (hi:P.info? t=some i) (jk:i.zero=some z) (hf:Instr.fill (fun j=>fs[j]?) z.cells parts=some out):P.built t parts=some out:=by
 obtain⟨i',z',u,nD,Nw,hu,_,_,_,_,gM⟩:=la h;rw [hi] at nD;cases nD;rw [jk] at Nw;cases Nw;rw [hk] at gM;cases u<;>simp [kindOf] at gM
 rename_i F
 have hm:F.toList.mapM (fun f=>(P.info? f.type).map fun i=>(f.offset,i.size))=some fs:=by
  subst gM
  have:∀(l:List Field),(∀p∈l.map (fun f=>(f.offset,P.cellsOf f.type)),0<p.2)→l.mapM (fun f=>(P.info? f.type).map fun i=>(f.offset,i.size))=some (l.map fun f=>(f.offset,P.cellsOf f.type)):=by
   intro l
   induction l with
   |nil=>simp
   |cons f l ih=>
    intro hz;have h1:=hz (f.offset,P.cellsOf f.type) (by simp);have h2:=ih (fun p hp=>hz p (by simp at hp⊢;right;exact hp));simp only [List.mapM_cons,h2];unfold Program.cellsOf at h1⊢;cases hf:P.info? f.type with
    |none=>simp [hf] at h1
    |some j=>simp [hf]
  exact this F.toList hz
 unfold Program.built;simp only [hi,hu,jk,hm];simpa using hf
def EW (fs:List (Nat×Nat)):Bool:=fs.all fun p=>Nat.blt 0 p.2
theorem YP {t:Nat} {parts:Array (Nat×Operand)} {D:ae} {fs:List (Nat×Nat)} {l:List AV} (ho:o.op=.build t parts) (h:az P t=some D) (hk:D.k=.struct fs) (hz:EW fs=true) (hl:nC (fun j=>fs[j]?) D.zero.cells (oq s parts.toList)=some l):
  cM P o s ⟨.agg l,[],[],[]⟩:=by
 intro s' _ bS _ _;refine f_ fun c φ R a w hs=>?_
 obtain⟨i,z,u,hi,jk,_,dj,_,hzero,iR,_⟩:=la h;obtain⟨p1,p2⟩:=Il hs parts (s:=s) (fun p hp=>bS _ (Nv ho p hp));have hc:=xV w R φ z;rw [hzero] at hl;obtain⟨out,g1,g2,g3⟩:=EV (w:=w) (R:=R) (φ:=φ) (oq s parts.toList) _ l (parts.map fun(i,x)=>(i,a.eval x)).toList z.cells hl p1 p2 hc.1 hc.2;have hb:=run_build (P:=P) w t (parts.map fun(i,x)=>(i,a.eval x)) out (YO h hk (by simpa [EW] using hz) hi jk g1);exact⟨.agg out,by simp [execOp,ho,hb],.agg g2 g3⟩
theorem YQ {t n e:Nat} {parts:Array (Nat×Operand)} {D E:ae} {l:List AV} (ho:o.op=.build t parts) (h:az P t=some D) (hk:D.k=.array n e) (hE:az P e=some E) (hl:nC (fun j=>some (j*E.size,E.size)) D.zero.cells (oq s parts.toList)=some l):
  cM P o s ⟨.agg l,[],[],[]⟩:=by
 intro s' _ bS _ _;refine f_ fun c φ R a w hs=>?_
 obtain⟨i,z,u,hi,jk,_,dj,_,hzero,iR,_⟩:=la h;obtain⟨ie,ze,ue,YR,_,_,YS,_⟩:=la hE;obtain⟨p1,p2⟩:=Il hs parts (s:=s) (fun p hp=>bS _ (Nv ho p hp));have hc:=xV w R φ z;rw [hzero] at hl;obtain⟨out,g1,g2,g3⟩:=EV (w:=w) (R:=R) (φ:=φ) (oq s parts.toList) _ l (parts.map fun(i,x)=>(i,a.eval x)).toList z.cells hl p1 p2 hc.1 hc.2
 have YT:P.built t (parts.map fun(i,x)=>(i,a.eval x)).toList=some out:=by
  unfold Program.built;simp only [hi,EU h hk,jk,YR];rw [YS];exact g1
 have hb:=run_build (P:=P) w t (parts.map fun(i,x)=>(i,a.eval x)) out YT;exact⟨.agg out,by simp [execOp,ho,hb],.agg g2 g3⟩
theorem Nx {w:World} {R:Nat→Prop} {φ:Ph} {T off:Nat} {D:ae} {cs:List AV} {vs:Array Value} {v:AV} (hT:az P T=some D) (hl:cs.length=vs.size) (hr:∀(i:Nat) (c:AV) (u:Value),cs[i]?=some c→vs[i]?=some u→Rel w R φ c u) (hv:rd D cs off=some v):
  ∃u,(part T vs off).run P w=.ok u w∧Rel w R φ v u:=by
 cases hk:D.k.isAgg with
 |true=>
  unfold rd at hv;rw [hk] at hv;dsimp only at hv;cases hs:sub cs off D.size with
  |none=>simp [hs] at hv
  |some l=>
   simp [hs] at hv;subst hv;obtain⟨h1,h2,h3⟩:=xW cs off D.size l hs;refine⟨.agg (vs.extract off (off+D.size)),by simp [part,EO hT,hk,run_sizeOf hT],.agg (by simp [h1];omega) fun i c u hi hu=>?_⟩;have bB:i<D.size:=by rw [←h1];exact(List.getElem?_eq_some_iff.1 hi).1
   rw [h3 i bB] at hi;rw [Array.getElem?_extract] at hu;split at hu
   ·exact hr _ _ _ hi hu
   ·cases hu
 |false=>
  have h1:=Nn hk hv;have bB:off<vs.size:=by rw [←hl];exact(List.getElem?_eq_some_iff.1 h1).1
  exact⟨vs[off],by simp [part,EO hT,hk,bB],hr off v vs[off] h1 (by simp [bB])⟩
theorem Im {t j fo fz ft:Nat} {x:Operand} {D F:ae} {fs:List (Nat×Nat)} {cs:List AV} {v:AV} (ho:o.op=.field t x j) (h:az P t=some D) (hk:D.k=.struct fs) (hj:fs[j]?=some (fo,fz)) (YU:∀f:Array Field,P.underlying t=some (.struct f)→(f[j]?).map (·.type)=some ft) (hF:az P ft=some F) (hx:s.ev x=.agg cs) (hv:rd F cs fo=some v):
  cM P o s ⟨v,[],[],[]⟩:=by
 intro s' _ bS _ _;refine f_ fun c φ R a w hs=>?_
 have h1:=hs.ev x;rw [bS x (by simp [ho,Op.operands]),hx] at h1;generalize hq:a.eval x=q at h1;cases h1 with
 |@agg _ _ vs hl hr=>
  obtain⟨Fs,hu,YV⟩:=Nr h hk;obtain⟨f,hf,rfl,h2⟩:=YV j fo fz hj;have:=YU Fs hu;rw [hf] at this;simp at this;subst this;obtain⟨u,EX,vh⟩:=Nx hF hl hr hv;exact⟨u,by simp [execOp,ho,hq,Instr.field,run_underlying hu,hf,asAgg,EX],vh⟩
theorem YW {x:Operand} {i:Nat} {cs:List AV} {v:AV} (ho:o.op=.extract x i) (hx:s.ev x=.bR cs) (hv:cs[i]?=some v):cM P o s ⟨v,[],[],[]⟩:=by
 intro s' _ bS _ _;refine f_ fun c φ R a w hs=>?_
 have h1:=hs.ev x;rw [bS x (by simp [ho,Op.operands]),hx] at h1;generalize hq:a.eval x=q at h1;cases h1 with
 |@bR _ _ vs hl hr=>
  have bB:i<vs.size:=by rw [←hl];exact(List.getElem?_eq_some_iff.1 hv).1
  exact⟨vs[i],by simp [execOp,ho,hq,Instr.extract,bB],hr i v vs[i] hv (by simp [bB])⟩
theorem Ny {t n e:Nat} {x y:Operand} {D E:ae} {k:IntKind} {i:Int} {cs:List AV} {v:AV} (ho:o.op=.index t x y) (h:az P t=some D) (hk:D.k=.array n e) (hE:az P e=some E) (hx:s.ev x=.agg cs) (hy:s.ev y=.sc (.int k i)) (kE:0≤i) (hi:i<n) (hv:rd E cs (i.toNat*E.size)=some v):
  cM P o s ⟨v,[],[],[]⟩:=by
 intro s' _ bS _ _;refine f_ fun c φ R a w hs=>?_
 have h1:=hs.ev x;rw [bS x (by simp [ho,Op.operands]),hx] at h1;have h2:=hs.ev y;rw [bS y (by simp [ho,Op.operands]),hy] at h2;have h2:=h2.gI;generalize hq:a.eval x=q at h1;cases h1 with
 |@agg _ _ vs hl hr=>
  obtain⟨u,EX,vh⟩:=Nx hE hl hr hv;exact⟨u,by simp [execOp,ho,hq,h2,Instr.index,asIntOf,run_underlying (EU h hk),kE,hi,run_sizeOf hE,EX],vh⟩
theorem YX {t:Nat} {x y:Operand} {D:ae} {k:IntKind} {i:Int} {st:ByteArray} {u:UInt8} (ho:o.op=.index t x y) (h:az P t=some D) (hk:D.k=.str) (hx:s.ev x=.sc (.string st)) (hy:s.ev y=.sc (.int k i)) (kE:0≤i) (hu:st[i.toNat]?=some u):
  cM P o s ⟨.sc (.int .u8 u.toNat),[],[],[]⟩:=by
 intro s' _ bS _ _;refine f_ fun c φ R a w hs=>?_
 have h1:=hs.ev x;rw [bS x (by simp [ho,Op.operands]),hx] at h1;have h1:=h1.gI;have h2:=hs.ev y;rw [bS y (by simp [ho,Op.operands]),hy] at h2;have h2:=h2.gI;obtain⟨_,_,ud,_,_,ot,_,_,_,_,gM⟩:=la h;rw [hk] at gM;have:ud=.string:=by cases ud<;>simp [kindOf] at gM<;>rfl
 subst this;exact⟨_,by simp [execOp,ho,h1,h2,Instr.index,asIntOf,run_underlying ot,kE,hu],.sc rfl⟩
theorem xY {op:BinOp} {t ty:Nat} {x y:Operand} {v1 v2 v:Value} (ho:o.op=.binOp op t x y ty) (hx:s.ev x=.sc v1) (hy:s.ev y=.sc v2) (hg:∀w,(eqGuard op t x y v1 v2).run P w=.ok () w) (hr:∀w,(binOp op t v1 v2).run P w=.ok v w) (hf:flat v=true):
  cM P o s ⟨.sc v,[],[],[]⟩:=by
 intro s' _ bS _ _;refine f_ fun c φ R a w hs=>?_
 have h1:=hs.ev x;rw [bS x (by simp [ho,Op.operands]),hx] at h1;have h1:=h1.gI;have h2:=hs.ev y;rw [bS y (by simp [ho,Op.operands]),hy] at h2;have h2:=h2.gI;exact⟨v,by simp [execOp,ho,h1,h2,hg,hr],.sc hf⟩
theorem Bd (op:BinOp) (t:Nat) (x y:Operand) (k k':IntKind) (a b:Int) (w:World):(eqGuard op t x y (.int k a) (.int k' b)).run P w=.ok () w:=by cases op<;>rfl
theorem YY (op:BinOp) (t:Nat) (x y:Operand) (a b:ByteArray) (w:World):(eqGuard op t x y (.string a) (.string b)).run P w=.ok () w:=by cases op<;>rfl
def EY (op:BinOp) (k:IntKind) (a b:Int):Option Value:=
 match op with
 |.add=>some (.int k (k.wrap (a+b)))
 |.sub=>some (.int k (k.wrap (a -b)))
 |.mul=>some (.int k (k.wrap (a*b)))
 |.eql=>some (.bool (a==b))
 |.neq=>some (.bool (a !=b))
 |.lss=>some (.bool (decide (a<b)))
 |.leq=>some (.bool (decide (a≤b)))
 |.gtr=>some (.bool (decide (b<a)))
 |.geq=>some (.bool (decide (b≤a)))
 |.and=>some (.int k (k.wrap (BitVec.ofInt k.bits a&&&BitVec.ofInt k.bits b).toNat))
 |.or=>some (.int k (k.wrap (BitVec.ofInt k.bits a|||BitVec.ofInt k.bits b).toNat))
 |.xor=>some (.int k (k.wrap (BitVec.ofInt k.bits a^^^BitVec.ofInt k.bits b).toNat))
 |_=>none
theorem YZ {op:BinOp} {t ty:Nat} {x y:Operand} {k:IntKind} {a b:Int} {v:Value} (ho:o.op=.binOp op t x y ty) (hx:s.ev x=.sc (.int k a)) (hy:s.ev y=.sc (.int k b)) (hv:EY op k a b=some v):cM P o s ⟨.sc v,[],[],[]⟩:=by
 refine xY ho hx hy (Bd op t x y k k a b) (fun w=>?_) ?_
 ·cases op<;>simp [EY] at hv<;>subst hv<;>simp [binOp,Op.intArith,Op.intCmp,Op.intBits]<;>first|rfl|(constructor<;>intro h<;>exact h)
 ·cases op<;>simp [EY] at hv<;>subst hv<;>rfl
theorem Nz {t ty:Nat} {x y:Operand} {k:IntKind} {a b:Int} (ho:o.op=.binOp .quo t x y ty) (hx:s.ev x=.sc (.int k a)) (hy:s.ev y=.sc (.int k b)) (hb:b≠0):cM P o s ⟨.sc (.int k (k.wrap (a.tdiv b))),[],[],[]⟩:=
 xY ho hx hy (Bd _ t x y k k a b) (fun w=>by simp [binOp,Op.intDiv,hb]) rfl
theorem NA {t ty:Nat} {x y:Operand} {k:IntKind} {a b:Int} (ho:o.op=.binOp .rem t x y ty) (hx:s.ev x=.sc (.int k a)) (hy:s.ev y=.sc (.int k b)) (hb:b≠0):cM P o s ⟨.sc (.int k (a.tmod b)),[],[],[]⟩:=
 xY ho hx hy (Bd _ t x y k k a b) (fun w=>by simp [binOp,Op.intDiv,hb]) rfl
theorem Y0 {t ty:Nat} {x y:Operand} {k k':IntKind} {a b:Int} (ho:o.op=.binOp .shl t x y ty) (hx:s.ev x=.sc (.int k a)) (hy:s.ev y=.sc (.int k' b)) (hb:0≤b):cM P o s ⟨.sc (.int k (k.wrap (a*2^(min b.toNat k.bits)))),[],[],[]⟩:=
 xY ho hx hy (Bd _ t x y k k' a b) (fun w=>by simp [binOp,Op.shift,Int.not_lt.2 hb]) rfl
theorem Y1 {t ty:Nat} {x y:Operand} {k k':IntKind} {a b:Int} (ho:o.op=.binOp .shr t x y ty) (hx:s.ev x=.sc (.int k a)) (hy:s.ev y=.sc (.int k' b)) (hb:0≤b):cM P o s ⟨.sc (.int k (a.fdiv (2^(min b.toNat k.bits)))),[],[],[]⟩:=
 xY ho hx hy (Bd _ t x y k k' a b) (fun w=>by simp [binOp,Op.shift,Int.not_lt.2 hb]) rfl
def Be (op:BinOp) (a b:ByteArray):Option Value:=
 match op with
 |.eql=>some (.bool (a.toList==b.toList))
 |.neq=>some (.bool (!(a.toList==b.toList)))
 |.lss=>some (.bool (Op.bytesLess a.toList b.toList))
 |_=>none
theorem NB {op:BinOp} {t ty:Nat} {x y:Operand} {a b:ByteArray} {v:Value} (ho:o.op=.binOp op t x y ty) (hx:s.ev x=.sc (.string a)) (hy:s.ev y=.sc (.string b)) (hv:Be op a b=some v):cM P o s ⟨.sc v,[],[],[]⟩:=by
 refine xY ho hx hy (YY op t x y a b) (fun w=>?_) ?_
 ·cases op<;>simp [Be] at hv<;>subst hv<;>simp [binOp,Op.stringOp]
 ·cases op<;>simp [Be] at hv<;>subst hv<;>rfl
theorem Y2 {op:UnOp} {t:Nat} {x:Operand} {v1 v:Value} (ho:o.op=.unOp op t x) (hx:s.ev x=.sc v1) (hr:∀w,(Op.unary op v1).run P w=.ok v w) (hf:flat v=true):cM P o s ⟨.sc v,[],[],[]⟩:=by
 intro s' _ bS _ _;refine f_ fun c φ R a w hs=>?_
 have h1:=hs.ev x;rw [bS x (by simp [ho,Op.operands]),hx] at h1;have h1:=h1.gI;exact⟨v,by simp [execOp,ho,h1,hr],.sc hf⟩
def EZ (op:UnOp) (v:Value):Option Value:=
 match op,v with
 |.not,.bool b=>some (.bool (!b))
 |.neg,.int k n=>some (.int k (k.wrap (0 -n)))
 |.xor,.int k n=>some (.int k (k.wrap (BitVec.ofInt k.bits (if k.signed then-1 else k.max)^^^BitVec.ofInt k.bits n).toNat))
 |_,_=>none
theorem Y3 {op:UnOp} {t:Nat} {x:Operand} {v1 v:Value} (ho:o.op=.unOp op t x) (hx:s.ev x=.sc v1) (hv:EZ op v1=some v):cM P o s ⟨.sc v,[],[],[]⟩:=by
 refine Y2 ho hx (fun w=>?_) ?_
 ·cases op<;>cases v1<;>simp [EZ] at hv<;>subst hv<;>simp [Op.unary,Op.intArith,Op.intBits]
 ·cases op<;>cases v1<;>simp [EZ] at hv<;>subst hv<;>rfl
theorem Io {t:Nat} {k:IntKind} {D:ae} (h:az P t=some D) (hk:D.k=.int k):P.underlying t=some (.int k):=by
 obtain⟨_,_,ud,_,_,ot,_,_,_,_,gM⟩:=la h;rw [hk] at gM;cases ud<;>simp [kindOf] at gM
 subst gM;exact ot
theorem Y4 {t1 t2:Nat} {x:Operand} {k1 k2 k:IntKind} {D1 D2:ae} {n:Int} (ho:o.op=.convert t1 t2 x) (h1:az P t1=some D1) (h2:az P t2=some D2) (q8:D1.k=.int k1) (hU:D2.k=.int k2) (hx:s.ev x=.sc (.int k n)):cM P o s ⟨.sc (.int k2 (k2.wrap n)),[],[],[]⟩:=by
 intro s' _ bS _ _;refine f_ fun c φ R a w hs=>?_
 have om:=hs.ev x;rw [bS x (by simp [ho,Op.operands]),hx] at om;have om:=om.gI;exact⟨_,by simp [execOp,ho,om,convert,run_underlying (Io h1 q8),run_underlying (Io h2 hU),Conv.intToInt],.sc rfl⟩
end
section
variable{P:Program} {o:Oper} {s:St}
def l0 (b:Builtin) (args:Array Operand) (ga:Array TypeId):Op:=.call {callee:=.builtin b,args:=args,argTypes:=ga}
theorem vi {b:Builtin} {args:Array Operand} {ga:Array TypeId} (ho:o.op=l0 b args ga) (a:Act) (w:World):
  (execOp a.eval o).run P w=(builtin b ga o.type (args.map fun|.const _=>true|_=>false) (args.map a.eval)).run P w:=by
 simp [execOp,ho,l0,resolve,invoke];rfl
theorem rZ {b:Builtin} {args:Array Operand} {ga:Array TypeId} (ho:o.op=l0 b args ga):∀x∈args.toList,x∈o.op.operands.toList:=by
 intro x hx;simpa [ho,l0,Op.operands,Call.operands] using hx
theorem Y5 {t:Nat} {D:ae} (h:az P t=some D) (hk:D.k=.str):P.underlying t=some .string:=by
 obtain⟨_,_,ud,_,_,ot,_,_,_,_,gM⟩:=la h;rw [hk] at gM;have:ud=.string:=by cases ud<;>simp [kindOf] at gM<;>rfl
 subst this;exact ot
def Bf:AV→Option Nat
 |.sl xs=>some xs.length
 |.arr _ _ n=>some n
 |.bF=>some 0
 |_=>none
theorem Rel.len {w:World} {R:Nat→Prop} {φ:Ph} {a:AV} {v:Value} {n:Nat} (h:Rel w R φ a v) (hn:Bf a=some n):∃ad cap,v=.slice ad n cap:=by
 cases h<;>simp [Bf] at hn<;>subst hn
 ·exact⟨_,_,rfl⟩
 ·exact⟨_,_,rfl⟩
 ·exact⟨_,_,rfl⟩
 ·exact⟨_,_,rfl⟩
 ·exact⟨_,_,rfl⟩
theorem Y6 {t e:Nat} {x:Operand} {D:ae} {v:AV} {n:Nat} (ho:o.op=l0 .len #[x] #[t]) (h:az P t=some D) (hk:D.k=.slice e) (hx:s.ev x=v) (hn:Bf v=some n):cM P o s ⟨.sc (.int .i64 n),[],[],[]⟩:=by
 intro s' _ bS _ _;refine f_ fun c φ R a w hs=>?_
 have h1:=hs.ev x;rw [bS x (rZ ho x (by simp)),hx] at h1;obtain⟨ad,cap,hv⟩:=h1.len hn;exact⟨.int .i64 n,by simp [vi ho,builtin,Builtin.len_,hv,run_underlying (pg h hk),goInt],.sc rfl⟩
theorem Y7 {t:Nat} {x:Operand} {D:ae} {st:ByteArray} (ho:o.op=l0 .len #[x] #[t]) (h:az P t=some D) (hk:D.k=.str) (hx:s.ev x=.sc (.string st)):cM P o s ⟨.sc (.int .i64 st.size),[],[],[]⟩:=by
 intro s' _ bS _ _;refine f_ fun c φ R a w hs=>?_
 have h1:=hs.ev x;rw [bS x (rZ ho x (by simp)),hx] at h1;have h1:=h1.gI;exact⟨.int .i64 st.size,by simp [vi ho,builtin,Builtin.len_,h1,run_underlying (Y5 h hk),goInt],.sc rfl⟩
theorem Y8 {t n e:Nat} {x:Operand} {D:ae} (ho:o.op=l0 .len #[x] #[t]) (h:az P t=some D) (hk:D.k=.array n e):cM P o s ⟨.sc (.int .i64 n),[],[],[]⟩:=by
 intro s' _ bS _ _;refine f_ fun c φ R a w hs=>?_
 exact⟨.int .i64 n,by simp [vi ho,builtin,Builtin.len_,run_underlying (EU h hk),goInt],.sc rfl⟩
theorem Y9 {t:Array TypeId} {x y:Operand} {k:IntKind} {m n:Int} (ho:o.op=l0 .max #[x,y] t) (hx:s.ev x=.sc (.int k m)) (hy:s.ev y=.sc (.int k n)):cM P o s ⟨.sc (.int k (max m n)),[],[],[]⟩:=by
 intro s' _ bS _ _;refine f_ fun c φ R a w hs=>?_
 have h1:=hs.ev x;rw [bS x (rZ ho x (by simp)),hx] at h1;have h1:=h1.gI;have h2:=hs.ev y;rw [bS y (rZ ho y (by simp)),hy] at h2;have h2:=h2.gI;have e:(if n>m then n else m)=max m n:=by split<;>omega
 exact⟨.int k (max m n),by simp [vi ho,builtin,Builtin.max_,Builtin.max2,h1,h2,←e],.sc rfl⟩
theorem Y_ {t:Array TypeId} {x y:Operand} {k:IntKind} {m n:Int} (ho:o.op=l0 .min #[x,y] t) (hx:s.ev x=.sc (.int k m)) (hy:s.ev y=.sc (.int k n)):cM P o s ⟨.sc (.int k (min m n)),[],[],[]⟩:=by
 intro s' _ bS _ _;refine f_ fun c φ R a w hs=>?_
 have h1:=hs.ev x;rw [bS x (rZ ho x (by simp)),hx] at h1;have h1:=h1.gI;have h2:=hs.ev y;rw [bS y (rZ ho y (by simp)),hy] at h2;have h2:=h2.gI;have e:(if n<m then n else m)=min m n:=by split<;>omega
 exact⟨.int k (min m n),by simp [vi ho,builtin,Builtin.min_,Builtin.min2,h1,h2,←e],.sc rfl⟩
theorem Y' {f:Nat} {fs cs:Array Operand} {l1 l2:List AV} (ho:o.op=.makeFunc (.func f) fs cs) (h1:fs.toList.map s.ev=l1) (h2:cs.toList.map s.ev=l2):cM P o s ⟨.cE f l1 l2,[],[],[]⟩:=by
 intro s' _ bS _ _;refine f_ fun c φ R a w hs=>⟨.func (.func f) (fs.map a.eval) (cs.map a.eval),by simp [execOp,ho,Instr.makeFunc],?_⟩
 subst h1;subst h2;refine .cE (by simp) (by simp) (fun i c v hc hv=>?_) (fun i c v hc hv=>?_)
 ·simp only [List.getElem?_map,Array.getElem?_toList,Array.getElem?_map] at hc hv;cases hq:fs[i]?with
  |none=>simp [hq] at hc
  |some x=>
   simp [hq] at hc hv;subst hc;subst hv;have:=hs.ev x;rwa [bS x (by simp [ho,Op.operands];exact .inl (Array.mem_of_getElem? hq))] at this
 ·simp only [List.getElem?_map,Array.getElem?_toList,Array.getElem?_map] at hc hv;cases hq:cs[i]?with
  |none=>simp [hq] at hc
  |some x=>
   simp [hq] at hc hv;subst hc;subst hv;have:=hs.ev x;rwa [bS x (by simp [ho,Op.operands];exact .inr (Array.mem_of_getElem? hq))] at this
theorem cz.E0 {c:Ctx} {φ:Ph} {R:Nat→Prop} {a:Act} {w w':World} (h:cz c φ R s a w) (d:Nat) (ig:Fr s d) {T n cap:Nat} {C:Array Value} {xs:List AV} (hw:∃k,w'={w.alloc (.cells C T) with drawn:=k}∧w.drawn≤k) (hn:0<n) (hC:C.size=cap*n) (lZ:xs.length≤cap) (Za:cap≤maxLen)
  (hr:∀(i:Nat) (x:AV),xs[i]?=some x→x.cells.length=n∧∀(j:Nat) (c:AV),x.cells[j]?=some c→∃u,C[i*n+j]?=some u∧Rel w R φ c u):
  cz c (φ.up d (some ⟨w.heap.size,n,cap⟩)) R {s with m:=(d,some ⟨T,n,xs⟩)::s.m} a w'∧∀len,len≤cap→Rel w' R (φ.up d (some ⟨w.heap.size,n,cap⟩)) (.arr d 0 len) (.slice (some ⟨w.heap.size,0,none⟩) len cap):=by
 obtain⟨kd,rfl,Zb⟩:=hw
 have u9:φ d=none:=by
  cases hq:φ d with
  |none=>rfl
  |some y=>obtain⟨z,hz⟩:=h.fZ d y hq;rw [ig.1] at hz;cases hz
 have hold:∀i,i<w.heap.size→({w.alloc (.cells C T) with drawn:=kd}:World).heap[i]?=w.heap[i]?:=fun i hi=>heap_alloc_old w _ i hi
 refine⟨h.add d ig ⟨T,n,xs⟩ ⟨w.heap.size,n,cap⟩ ⟨rfl,rfl,rfl,Zb,by simp,fun i hi _=>hold i hi⟩ (Nat.le_refl _) ?_,fun len hl=>?_⟩
 ·refine⟨rfl,hn,lZ,Za,C,heap_alloc_new w _,hC,fun i x hx=>⟨(hr i x hx).1,fun j c hj=>?_⟩⟩;obtain⟨u,hu,gL⟩:=(hr i x hx).2 j c hj;exact⟨u,hu,gL.mono (fun n hn=>hold n (h.Rb n hn)) (fun _ h=>h) (Ph.Bb _ u9)⟩
 ·have:=Rel.arr (w:={w.alloc (.cells C T) with drawn:=kd}) (R:=R) (φ:=φ.up d (some ⟨w.heap.size,n,cap⟩)) (b:=d) (off:=0) (len:=len) (cap:=cap) (h:=⟨w.heap.size,n,cap⟩) (by simp [Ph.up]) hl (by simp);simpa using this
theorem Ip (zero:Array Value) (n sz:Nat) (hz:zero.size=sz) (i j:Nat) (hi:i<n) (hj:j<sz):((Array.range (n*sz)).map (zero[·%zero.size]!))[i*sz+j]?=zero[j]?:=by
 have h1:i*sz+j<n*sz:=tn hi hj;have h2:(i*sz+j)%sz=j:=by rw [Nat.add_comm,Nat.add_mul_mod_self_right,Nat.mod_eq_of_lt hj]
 simp [h1,hz,h2,hj]
theorem NC {t e d:Nat} {x y:Operand} {D E:ae} {k:IntKind} {n:Int} (ho:o.op=.makeSlice t x y) (h:az P t=some D) (hk:D.k=.slice e) (hE:az P e=some E) (hx:s.ev x=.sc (.int k n)) (hy:s.ev y=.sc (.int k n)) (hz:Nat.blt 0 E.size=true)
  (E1:0≤n) (hn:n≤9223372036854775807) (hb:n*E.bytes≤281474976710656):cM P o s ⟨.arr d 0 n.toNat,[(d,some ⟨e,E.size,List.replicate n.toNat E.zero⟩)],[],[d]⟩:=by
 intro s' _ bS _ ji;refine tl fun c φ R a w hs=>?_
 have h1:=hs.ev x;rw [bS x (by simp [ho,Op.operands]),hx] at h1;have h1:=h1.gI;have h2:=hs.ev y;rw [bS y (by simp [ho,Op.operands]),hy] at h2;have h2:=h2.gI;obtain⟨i,z,u,hi,jk,_,dj,Bg,hzero,iR,_⟩:=la hE;have nE:0<E.size:=by simpa using hz
 obtain⟨N,rfl⟩:=Int.eq_ofNat_of_zero_le E1
 have hw:IntKind.i64.wrap (N:Int)=N:=by
  simp [IntKind.wrap,IntKind.signed,IntKind.bits];omega
 have ND:¬((E.bytes:Int)*(N:Int)>281474976710656):=by rw [Int.mul_comm];omega
 have fG:(Instr.makeSlice t (.int k (N:Int)) (.int k (N:Int))).run P w=.ok (.slice (some ⟨w.heap.size,0,none⟩) N N) (w.alloc (.cells ((Array.range (N*E.size)).map (z.cells[·%z.cells.size]!)) e)):=by
  simp only [Instr.makeSlice,Sem.run_bind,run_underlying (pg h hk),Result.andThen_ok,asInt,asIntOf,Sem.run_pure,typeInfo,run_program,hi,Bg,hw];have Zc:(decide ((N:Int)<0)||decide ((E.bytes:Int)*(N:Int)>2^48))=false:=by simp;omega
  simp only [Zc,Bool.false_or];have h0:((decide ((N:Int)<0))||decide ((N:Int)>(N:Int)))=false:=by simp
  simp only [h0];simp [run_sizeOf hE];by_cases hN:N=0
  ·subst hN;have e0:Array.range 0=#[]:=rfl;simp [newRow,e0]
  ·have:N*E.size≠0:=Nat.mul_ne_zero hN (by omega);simp [zeroValue,typeInfo,hi,jk,newRow];intro h0;exact absurd h0 this
 have hc:=xV w R φ z
 obtain⟨g1,g2⟩:=hs.E0 d (ji d (by simp)) (T:=e) (n:=E.size) (cap:=N) (C:=(Array.range (N*E.size)).map (z.cells[·%z.cells.size]!)) (xs:=List.replicate N E.zero) ⟨w.drawn,rfl,Nat.le_refl _⟩ nE (by simp) (by simp) (by simp only [maxLen];omega) (fun i x hx=>by
  obtain⟨Iq,rfl⟩:i<N∧x=E.zero:=by
   rw [List.getElem?_replicate] at hx;split at hx
   ·exact⟨‹_›,by simpa using hx.symm⟩
   ·cases hx
  rw [hzero];refine⟨by rw [hc.1,iR],fun j c' hj=>?_⟩;have eR:j<E.size:=by rw [←iR,←hc.1];exact(List.getElem?_eq_some_iff.1 hj).1
  refine⟨z.cells[j]'(by omega),?_,hc.2 j c' _ hj (by simp [iR,eR])⟩
  rw [Ip z.cells N E.size iR i j Iq eR];simp [iR,eR])
 refine⟨.slice (some ⟨w.heap.size,0,none⟩) N N,w.alloc (.cells ((Array.range (N*E.size)).map (z.cells[·%z.cells.size]!)) e),φ.up d (some ⟨w.heap.size,E.size,N⟩),R,by simp [execOp,ho,h1,h2,fG],?_⟩;exact cz.app g1 o.dst (by simpa using g2 N (Nat.le_refl _))
end
section
variable{P:Program} {o:Oper} {s:St}
def group (agg:Bool) (sz:Nat):Nat→List AV→Option (List AV)
 |0,[]=>some []
 |0,_::_=>none
 |n+1,l=>match sub l 0 sz with
  |none=>none
  |some cs=>match kD l sz with
   |none=>none
   |some rest=>match group agg sz n rest with
    |none=>none
    |some xs=>match agg with
     |true=>some (.agg cs::xs)
     |false=>match cs with
      |[.agg _]=>none
      |[c]=>some (c::xs)
      |_=>none
theorem NF {agg:Bool} {sz:Nat}:∀(n:Nat) (l xs:List AV),group agg sz n l=some xs→xs.length=n∧l.length=n*sz∧∀(i:Nat) (x:AV),xs[i]?=some x→x.cells.length=sz∧∀(j:Nat) (c:AV),x.cells[j]?=some c→l[i*sz+j]?=some c
 |0,[],xs,h=>by simp [group] at h;subst h;simp
 |0,_::_,xs,h=>by simp [group] at h
 |n+1,l,xs,h=>by
  simp only [group] at h;cases h1:sub l 0 sz with
  |none=>simp [h1] at h
  |some cs=>
   cases h2:kD l sz with
   |none=>simp [h1,h2] at h
   |some rest=>
    cases h3:group agg sz n rest with
    |none=>simp [h1,h2,h3] at h
    |some ys=>
     simp only [h1,h2,h3] at h;obtain⟨s1,s2,s3⟩:=xW l 0 sz cs h1;obtain⟨rfl,d2⟩:=Ii sz l rest h2;obtain⟨g1,g2,g3⟩:=NF n _ ys h3
     have key:∃x,xs=x::ys∧x.cells=cs:=by
      cases agg with
      |true=>simp at h;exact⟨.agg cs,h.symm,rfl⟩
      |false=>
       dsimp only at h
       match cs,h with
       |[.bot],h=>cases h;exact⟨_,rfl,rfl⟩
       |[.sc _],h=>cases h;exact⟨_,rfl,rfl⟩
       |[.bF],h=>cases h;exact⟨_,rfl,rfl⟩
       |[.bR _],h=>cases h;exact⟨_,rfl,rfl⟩
       |[.sl _],h=>cases h;exact⟨_,rfl,rfl⟩
       |[.vp _],h=>cases h;exact⟨_,rfl,rfl⟩
       |[.ref _ _ _],h=>cases h;exact⟨_,rfl,rfl⟩
       |[.arr _ _ _],h=>cases h;exact⟨_,rfl,rfl⟩
       |[.cE _ _ _],h=>cases h;exact⟨_,rfl,rfl⟩
       |[.iQ _ _ _],h=>cases h;exact⟨_,rfl,rfl⟩
       |[.jd _],h=>cases h;exact⟨_,rfl,rfl⟩
       |[.agg _],h=>cases h
       |[],h=>cases h
       |_::_::_,h=>simp at h
     obtain⟨x,rfl,hx⟩:=key;simp only [List.length_drop] at g2;refine⟨by simp [g1],by rw [Nat.add_mul,Nat.one_mul];omega,fun i y hy=>?_⟩;cases i with
     |zero=>
      simp at hy;subst hy;rw [hx];refine⟨s1,fun j c hj=>?_⟩;have eR:j<sz:=by rw [←s1];exact(List.getElem?_eq_some_iff.1 hj).1
      rw [s3 j eR] at hj;simpa using hj
     |succ i=>
      simp at hy;obtain⟨q1,q2⟩:=g3 i y hy;refine⟨q1,fun j c hj=>?_⟩;have:=q2 j c hj;rw [List.getElem?_drop] at this;rw [←this];congr 1;rw [Nat.add_mul,Nat.one_mul];omega
def q9 (z:List AV):Nat→List AV
 |0=>[]
 |n+1=>z++q9 z n
theorem NG (z:List AV):∀n,(q9 z n).length=n*z.length∧∀i j,i<n→j<z.length→(q9 z n)[i*z.length+j]?=z[j]?
 |0=>⟨by simp [q9],fun i j hi=>by omega⟩
 |n+1=>by
  obtain⟨h1,h2⟩:=NG z n;refine⟨by simp only [q9,List.length_append,h1,Nat.add_mul,Nat.one_mul];omega,fun i j hi hj=>?_⟩;cases i with
  |zero=>simp only [q9,Nat.zero_mul,Nat.zero_add];rw [List.getElem?_append_left hj]
  |succ i=>
   simp only [q9];have:(i+1)*z.length+j=z.length+(i*z.length+j):=by rw [Nat.add_mul,Nat.one_mul];omega
   rw [this,List.getElem?_append_right (by omega),show z.length+(i*z.length+j) -z.length=i*z.length+j by omega]
   exact h2 i j (by omega) hj
theorem Zd {t e d len:Nat} {parts:Array (Nat×Operand)} {D E:ae} {l xs:List AV} (ho:o.op=.buildSlice t len parts) (h:az P t=some D) (hk:D.k=.slice e) (hE:az P e=some E) (hz:Nat.blt 0 E.size=true) (ou:Nat.ble (len*E.size) 16777216=true)
  (hl:nC (fun j=>some (j*E.size,E.size)) (q9 E.zero.cells len) (oq s parts.toList)=some l) (hg:group E.k.isAgg E.size len l=some xs):
  cM P o s ⟨.arr d 0 len,[(d,some ⟨e,E.size,xs⟩)],[],[d]⟩:=by
 intro s' _ bS _ ji;refine tl fun c φ R a w hs=>?_
 have nE:0<E.size:=by simpa using hz
 have apJ:len*E.size≤16777216:=Nat.le_of_ble_eq_true ou;obtain⟨i,z,u,hi,jk,_,dj,Bg,hzero,iR,_⟩:=la hE
 have fP:∀p∈parts.toList,p.2∈o.op.operands.toList:=by
  intro p hp;simp only [ho,Op.operands];simp;exact⟨p.1,by simpa using hp⟩
 obtain⟨p1,p2⟩:=Il hs parts (s:=s) (fun p hp=>bS _ (fP p hp));have hc:=xV w R φ z;rw [hzero] at hl;obtain⟨q1,q2⟩:=NG (pe z).cells len;have E2:(pe z).cells.length=E.size:=by rw [hc.1,iR]
 obtain⟨out,g1,g2,g3⟩:=EV (w:=w) (R:=R) (φ:=φ) (oq s parts.toList) _ l (parts.map fun(i,x)=>(i,a.eval x)).toList ((Array.range (len*E.size)).map (z.cells[·%z.cells.size]!)) hl p1 p2 (by simp [q1,E2]) (fun j c' u' h1 h2=>by
  have eR:j<len*E.size:=by rw [←E2,←q1];exact(List.getElem?_eq_some_iff.1 h1).1
  have e1:j=(j/E.size)*E.size+j%E.size:=by rw [Nat.mul_comm];exact(Nat.div_add_mod j E.size).symm
  have e2:j/E.size<len:=Nat.div_lt_of_lt_mul (by rwa [Nat.mul_comm] at eR);have e3:j%E.size<E.size:=Nat.mod_lt _ nE;rw [e1] at h1 h2;rw [Ip z.cells len E.size iR _ _ e2 e3] at h2;have:=q2 (j/E.size) (j%E.size) e2 (by rw [E2];exact e3);rw [E2] at this;rw [this] at h1;exact hc.2 _ _ _ h1 h2)
 obtain⟨r1,r2,r3⟩:=NF len l xs hg
 have fG:(Instr.buildSlice t len (parts.map fun(i,x)=>(i,a.eval x))).run P w=.ok (.slice (some ⟨w.heap.size,0,none⟩) len len) (w.alloc (.cells out e)):=by
  have vj:¬(len*E.size>16777216):=by omega
  simp only [Instr.buildSlice,Sem.run_bind,run_underlying (pg h hk),Result.andThen_ok,run_sizeOf hE];by_cases tq:len*E.size=0
  ·have hlen:len=0:=by
    rcases Nat.mul_eq_zero.1 tq with h|h
    ·exact h
    ·omega
   subst hlen;have e0:Array.range 0=#[]:=rfl;have NH:Instr.fill (fun j=>some (j*E.size,E.size)) #[] (parts.map fun(i,x)=>(i,a.eval x)).toList=some out:=by simpa [e0] using g1
   simp [e0,newRow];rw [show(parts.map fun(x:Nat×Operand)=>(x.1,a.eval x.2)).toList=(parts.map fun(i,x)=>(i,a.eval x)).toList from rfl] at*
   simp at NH;rw [NH];simp
  ·simp [tq,vj,zeroValue,typeInfo,hi,jk,newRow];simp at g1;rw [g1];simp
 obtain⟨n1,n2⟩:=hs.E0 d (ji d (by simp)) (T:=e) (n:=E.size) (cap:=len) (C:=out) (xs:=xs) ⟨w.drawn,rfl,Nat.le_refl _⟩ nE (by rw [←g2,r2]) (by omega) (by
   simp only [maxLen];have:=Nat.le_mul_of_pos_right len nE;omega) (fun i x hx=>by
  obtain⟨t1,t2⟩:=r3 i x hx;refine⟨t1,fun j c' hj=>?_⟩;have h3:=t2 j c' hj;have bB:i*E.size+j<out.size:=by rw [←g2];exact(List.getElem?_eq_some_iff.1 h3).1
  exact⟨out[i*E.size+j],by simp [bB],g3 _ _ _ h3 (by simp [bB])⟩)
 refine⟨.slice (some ⟨w.heap.size,0,none⟩) len len,w.alloc (.cells out e),φ.up d (some ⟨w.heap.size,E.size,len⟩),R,by simp [execOp,ho];simp at fG;rw [fG];simp,?_⟩;exact cz.app n1 o.dst (n2 len (Nat.le_refl _))
end
section
variable{P:Program} {o:Oper} {s:St}
structure Bh (w:World) (R:Nat→Prop) (φ:Ph) (sz:Nat) (ys:List AV) (v:Value):Prop where
 some:ys≠[]→∃(ad:Addr) (cap:Nat) (news:List Value),v=.slice (some ad) ys.length cap∧news.length=ys.length*sz∧(∀(j:Nat) (u:Value),news[j]?=some u→w.cell? (ad.add j)=some u)∧
  ∀(i:Nat) (x:AV),ys[i]?=some x→x.cells.length=sz∧∀(j:Nat) (c:AV),x.cells[j]?=some c→∃u,news[i*sz+j]?=some u∧Rel w R φ c u
 none:ys=[]→∃(ad:Option Addr) (cap:Nat),v=.slice ad 0 cap
theorem Zf {w:World} {R:Nat→Prop} {φ:Ph} {sz:Nat} {ys:List AV} {v:Value} (h:Rel w R φ (.sl ys) v) (hz:∀x∈ys,x.cells.length=sz):Bh w R φ sz ys v:=by
 cases h with
 |jG=>exact⟨fun h=>absurd rfl h,fun _=>⟨_,_,rfl⟩⟩
 |@sl _ _ b off cap e f he hR lZ hl hc hr=>
  refine⟨fun ep=>?_,fun h=>⟨_,_,by rw [h];rfl⟩⟩
  have Zg:e=sz:=by
   obtain⟨y,hy⟩:=List.exists_mem_of_ne_nil _ ep;obtain⟨i,hi,rfl⟩:=List.mem_iff_getElem.1 hy;rw [←hl i ys[i] (by simp [hi])];exact hz _ hy
  subst Zg;refine⟨⟨b,off,none⟩,cap,(List.range (ys.length*e)).map f,rfl,by simp,fun j u hj=>?_,fun i x hx=>⟨hl i x hx,fun j c hj=>?_⟩⟩
  ·rw [List.getElem?_map] at hj;cases hq:(List.range (ys.length*e))[j]?with
   |none=>simp [hq] at hj
   |some q=>
    have bB:j<ys.length*e:=by
     have:=(List.getElem?_eq_some_iff.1 hq).1;simpa using this
    simp [bB] at hq;subst hq;simp [bB] at hj;subst hj;rw [q7];exact hc j bB
  ·have bB:i*e+j<ys.length*e:=tn (List.getElem?_eq_some_iff.1 hx).1 (by rw [←hl i x hx];exact(List.getElem?_eq_some_iff.1 hj).1);exact⟨f (i*e+j),by simp [bB],(hr i x j c hx hj).mono (fun _ _=>rfl) (fun _ h=>h) (fun b x hb=>by simp [Ph.no] at hb)⟩
theorem Zh {c:Ctx} {φ:Ph} {R:Nat→Prop} {a:Act} {w:World} (hs:cz c φ R s a w) {b off len sz:Nat} {k:eI} {v:Value} (h:Rel w R φ (.arr b off len) v) (hb:lk b s.m=some (some k)) (hz:k.bW=sz) (hl:off+len≤k.xs.length):Bh w R φ sz ((k.xs.drop off).take len) v:=by
 have hlen:((k.xs.drop off).take len).length=len:=by simp;omega
 cases h with
 |kg=>exact⟨fun h=>absurd (by simp) h,fun _=>⟨_,_,rfl⟩⟩
 |@arr _ _ _ _ cap hm fO lE hc=>
  refine⟨fun ep=>?_,fun h=>⟨some ⟨hm.cA,off*hm.bW,none⟩,cap,by rw [h] at hlen;simp at hlen;subst hlen;rfl⟩⟩;obtain⟨oh,fF,hr⟩:=hs.m.rel b k hb;rw [fO] at fF;cases fF;obtain⟨h1,h2,h3,_,C,hC,EP,iS⟩:=hr;have e1:hm.bW=sz:=by rw [←h1,hz]
  rw [e1] at EP iS h2
  have lD:(off+len)*sz≤C.size:=by
   rw [EP];exact Nat.mul_le_mul_right _ (by omega)
  refine⟨⟨hm.cA,off*hm.bW,none⟩,cap,(C.toList.drop (off*sz)).take (len*sz),by rw [hlen],?_,fun j u hj=>?_,fun i x hx=>?_⟩
  ·rw [hlen];simp;rw [Nat.add_mul] at lD;omega
  ·rw [q7,cell_of_row w _ _ C _ _ hC,e1];rw [List.getElem?_take] at hj;split at hj
   ·rw [List.getElem?_drop,Array.getElem?_toList] at hj;exact hj
   ·cases hj
  ·rw [List.getElem?_take] at hx;split at hx
   ·rename_i hi;rw [List.getElem?_drop] at hx;obtain⟨q1,q2⟩:=iS (off+i) x hx;refine⟨q1,fun j c hj=>?_⟩;obtain⟨u,hu,gL⟩:=q2 j c hj;refine⟨u,?_,gL⟩;rw [List.getElem?_take,if_pos (tn hi (by rw [←q1];exact(List.getElem?_eq_some_iff.1 hj).1)),List.getElem?_drop,Array.getElem?_toList,←hu];congr 1;rw [Nat.add_mul];omega
   ·cases hx
theorem Zi {w:World} {R:Nat→Prop} {φ:Ph} {sz:Nat} {v:Value} (h:Rel w R φ .bF v):Bh w R φ sz [] v:=by
 cases h;exact⟨fun h=>absurd rfl h,fun _=>⟨_,_,rfl⟩⟩
theorem NI {t ty e:Nat} {E D:ae} (h:az P t=some D) (hk:D.k=.slice e) (hE:az P e=some E) (base:Option Addr) (n cap:Nat) (hn:n≤cap) (ad:Option Addr) (c:Nat) (w:World):
  (Builtin.append_ #[t,t] ty #[.slice base n cap,.slice ad 0 c]).run P w=.ok (.slice base n cap) w:=by
 cases base<;>cases ad<;>simp [Builtin.append_,run_underlying (pg h hk),run_sizeOf hE,Builtin.lenOf,hn,Builtin.firstCells,loadCells,loadCellsFrom,storeCells]
theorem cz.rename {c:Ctx} {φ:Ph} {R:Nat→Prop} {a:Act} {w:World} (h:cz c φ R s a w) {b d:Nat} {k:eI} {oh:Option Home} (hb:lk b s.m=some (some k)) (hx:φ b=some oh) (ig:Fr s d):
  cz c (φ.up d oh) R {s with m:=(d,some k)::(b,none)::s.m} a w:=by
 obtain⟨hd,pW⟩:=ig;have E3:d≠b:=by rintro rfl;rw [hb] at hd;cases hd
 have u9:φ d=none:=by
  cases hq:φ d with
  |none=>rfl
  |some y=>obtain⟨z,hz⟩:=h.fZ d y hq;rw [hd] at hz;cases hz
 have u_:=Ph.Bb (φ:=φ) (d:=d) oh u9;have pX:φ.up d oh d=some oh:=by simp [Ph.up]
 have ij:∀q,q≠d→φ.up d oh q=φ q:=fun q hq=>by simp [Ph.up,hq]
 have f:∀q kk,lk q ((d,some k)::(b,none)::s.m)=some (some kk)→(q=d∧kk=k)∨(q≠d∧q≠b∧lk q s.m=some (some kk)):=by
  intro q kk hq;rw [dP] at hq;by_cases e:q=d
  ·rw [if_pos e] at hq;cases hq;exact .inl ⟨e,rfl⟩
  ·rw [if_neg e,dP] at hq;by_cases e':q=b
   ·rw [if_pos e'] at hq;cases hq
   ·rw [if_neg e'] at hq;exact .inr ⟨e,e',hq⟩
 refine⟨h.n,fun t av ht=>(h.t t av ht).mono (fun _ _=>rfl) (fun _ h=>h) u_,⟨?_,?_,?_,h.m.gl⟩,?_,?_,h.R0,h.Rn,h.Rb,h.ext,h.d,fun q hq=>by rw [ij q (by omega)];exact h.eK q hq⟩
 ·intro q kk hq;rcases f q kk hq with⟨rfl,rfl⟩|⟨e1,e2,e3⟩
  ·obtain⟨NJ,fF,hr⟩:=h.m.rel b kk hb;rw [hx] at fF;cases fF;exact⟨oh,pX,hr.mono (fun _ _=>rfl) (fun _ _=>rfl) u_⟩
  ·obtain⟨NJ,fF,hr⟩:=h.m.rel q kk e3;exact⟨NJ,by rw [ij q e1];exact fF,hr.mono (fun _ _=>rfl) (fun _ _=>rfl) u_⟩
 ·intro q q' k1 k2 y y' hq mB hy kC heq;rcases f q k1 hq with⟨rfl,rfl⟩|⟨e1,e2,e3⟩<;>rcases f q' k2 mB with⟨rfl,rfl⟩|⟨E4,NK,NL⟩
  ·rfl
  ·exfalso;rw [pX] at hy;cases hy;rw [ij _ E4] at kC;exact NK (h.m.inj q' b k2 k1 y' y NL hb kC hx heq.symm)
  ·exfalso;rw [pX] at kC;cases kC;rw [ij _ e1] at hy;exact e2 (h.m.inj q b k1 k2 y y' e3 hb hy hx heq)
  ·rw [ij _ e1] at hy;rw [ij _ E4] at kC;exact h.m.inj q q' k1 k2 y y' e3 NL hy kC heq
 ·intro q k1 y hq hy;rcases f q k1 hq with⟨rfl,rfl⟩|⟨e1,e2,e3⟩
  ·rw [pX] at hy;cases hy;exact h.m.fA b k1 y hb hx
  ·rw [ij _ e1] at hy;exact h.m.fA q k1 y e3 hy
 ·intro q y hy;rw [dP];by_cases e:q=d
  ·rw [if_pos e];exact⟨_,rfl⟩
  ·rw [if_neg e,dP];by_cases e':q=b
   ·rw [if_pos e'];exact⟨_,rfl⟩
   ·rw [if_neg e'];rw [ij _ e] at hy;exact h.fZ q y hy
 ·intro q k1 y hq hy;rcases f q k1 hq with⟨rfl,rfl⟩|⟨e1,e2,e3⟩
  ·rw [pX] at hy;cases hy;exact h.fresh b k1 y hb hx
  ·rw [ij _ e1] at hy;exact h.fresh q k1 y e3 hy
theorem NM {w:World} {R:Nat→Prop} {φ:Ph} {sz n:Nat} {xs ys:List AV} {C C':Array Value} {news:List Value} (hn:n≤xs.length)
  (hold:∀(i:Nat) (x:AV),xs[i]?=some x→x.cells.length=sz∧∀(j:Nat) (c:AV),x.cells[j]?=some c→∃u,C[i*sz+j]?=some u∧Rel w R φ c u)
  (tr:∀(i:Nat) (x:AV),ys[i]?=some x→x.cells.length=sz∧∀(j:Nat) (c:AV),x.cells[j]?=some c→∃u,news[i*sz+j]?=some u∧Rel w R φ c u)
  (h1:∀q,q<n*sz→C'[q]?=C[q]?) (h2:∀q,q<news.length→C'[n*sz+q]?=news[q]?):
  ∀(i:Nat) (x:AV),(xs.take n++ys)[i]?=some x→x.cells.length=sz∧∀(j:Nat) (c:AV),x.cells[j]?=some c→∃u,C'[i*sz+j]?=some u∧Rel w R φ c u:=by
 intro i x hx;have hl:(xs.take n).length=n:=by simp;omega
 by_cases hi:i<n
 ·rw [List.getElem?_append_left (by omega),List.getElem?_take,if_pos hi] at hx;obtain⟨q1,q2⟩:=hold i x hx;refine⟨q1,fun j c hj=>?_⟩;obtain⟨u,hu,hr⟩:=q2 j c hj;refine⟨u,?_,hr⟩;rw [h1 _ (tn hi (by rw [←q1];exact(List.getElem?_eq_some_iff.1 hj).1))];exact hu
 ·rw [List.getElem?_append_right (by omega),hl] at hx;obtain⟨q1,q2⟩:=tr (i -n) x hx;refine⟨q1,fun j c hj=>?_⟩;obtain⟨u,hu,hr⟩:=q2 j c hj;refine⟨u,?_,hr⟩
  have e:i*sz+j=n*sz+((i -n)*sz+j):=by
   have:i*sz=n*sz+(i -n)*sz:=by rw [←Nat.add_mul];congr 1;omega
   omega
  rw [e,h2 _ (List.getElem?_eq_some_iff.1 hu).1];exact hu
theorem Zj {w:World} {R:Nat→Prop} {φ:Ph} {sz:Nat} {ys:List AV} {news:List Value} (dj:0<sz) (hl:news.length=ys.length*sz) (hc:ys.all (fun x=>x.cells.all AV.k_)=true)
  (tr:∀(i:Nat) (x:AV),ys[i]?=some x→x.cells.length=sz∧∀(j:Nat) (c:AV),x.cells[j]?=some c→∃u,news[i*sz+j]?=some u∧Rel w R φ c u):∀u∈news,u.oneCell'=true:=by
 intro u hu;obtain⟨q,hq,rfl⟩:=List.mem_iff_getElem.1 hu;have e1:q=(q/sz)*sz+q%sz:=by rw [Nat.mul_comm];exact(Nat.div_add_mod q sz).symm
 have e2:q/sz<ys.length:=Nat.div_lt_of_lt_mul (by rw [hl] at hq;rwa [Nat.mul_comm] at hq);have e3:q%sz<sz:=Nat.mod_lt _ dj;obtain⟨q1,q2⟩:=tr (q/sz) (ys[q/sz]) (by simp [e2]);obtain⟨u',pY,hr⟩:=q2 (q%sz) ((ys[q/sz]).cells[q%sz]'(by omega)) (by simp [q1,e3])
 rw [←e1] at pY;have:u'=news[q]:=by rw [List.getElem?_eq_getElem hq] at pY;cases pY;rfl
 subst this;refine hr.H' ?_;rw [List.all_eq_true] at hc;have:=hc _ (List.getElem_mem e2);rw [List.all_eq_true] at this;exact this _ (List.getElem_mem _)
theorem NN (z:Array Value) (n:Nat):(Builtin.zeroCells z n).size=n*z.size:=by simp [Builtin.zeroCells]
theorem Zl (Bi news:List Value) (zs:Array Value):(∀q,q<Bi.length→(Bi.toArray++news.toArray++zs)[q]?=Bi[q]?)∧∀q,q<news.length→(Bi.toArray++news.toArray++zs)[Bi.length+q]?=news[q]?:=by
 refine⟨fun q hq=>?_,fun q hq=>?_⟩
 ·rw [Array.getElem?_append_left (by simp;omega),Array.getElem?_append_left (by simpa using hq)];simp
 ·rw [Array.getElem?_append_left (by simp;omega),Array.getElem?_append_right (by simp)];simp
theorem Zm {c:Ctx} {φ:Ph} {R:Nat→Prop} {a:Act} {w:World} {t ty e d b n:Nat} {D E:ae} {k:eI} {ys:List AV} {v1 v2:Value} (hs:cz c φ R s a w) (h:az P t=some D) (hk:D.k=.slice e) (hE:az P e=some E) (hz:0<E.size)
  (h1:Rel w R φ (.arr b 0 n) v1) (hb:lk b s.m=some (some k)) (vk:k.ty=e) (jj:k.bW=E.size) (hn:n≤k.xs.length) (h2:Bh w R φ E.size ys v2) (hc:ys.all (fun x=>x.cells.all AV.k_)=true)
  (ig:Fr s d) (ou:(n+ys.length)*E.bytes≤140737488355328) (hlen:n+ys.length≤maxLen):
  ∃v w' φ',(Builtin.append_ #[t,t] ty #[v1,v2]).run P w=.ok v w'∧cz c φ' R {s with m:=(d,some ⟨e,E.size,k.xs.take n++ys⟩)::(b,none)::s.m} a w'∧Rel w' R φ' (.arr d 0 (n+ys.length)) v:=by
 obtain⟨i,z,u,hi,jk,_,dj,Bg,hzero,iR,_⟩:=la hE;obtain⟨oh,ow,ox⟩:=hs.m.rel b k hb;obtain⟨hd,pW⟩:=ig
 have Zo:∃fQ,cz c fQ R {s with m:=(d,some ⟨e,E.size,k.xs.take n⟩)::(b,none)::s.m} a w∧fQ=φ.up d oh:=by
  have hw:cz c φ R {s with m:=(b,some ⟨e,E.size,k.xs.take n⟩)::s.m} a w:=by
   have f:∀b1 k1,lk b1 ((b,some (⟨e,E.size,k.xs.take n⟩:eI))::s.m)=some (some k1)→∃k0,lk b1 s.m=some (some k0):=by
    intro b1 k1 h1;rw [dP] at h1;split at h1
    ·subst_vars;exact⟨k,hb⟩
    ·exact⟨k1,h1⟩
   refine⟨hs.n,hs.t,⟨?_,?_,?_,hs.m.gl⟩,?_,?_,hs.R0,hs.Rn,hs.Rb,hs.ext,hs.d,hs.eK⟩
   ·intro b1 k1 g1;rw [dP] at g1;split at g1
    ·subst_vars;cases g1;refine⟨oh,ow,?_⟩;cases oh with
     |none=>simp only [iB] at ox⊢;simp [ox]
     |some x=>
      obtain⟨r1,r2,r3,r4,C,r5,r6,r7⟩:=ox;refine⟨by rw [←r1,jj],r2,by simp;omega,r4,C,r5,r6,fun i x hx=>?_⟩;dsimp only at hx;rw [List.getElem?_take] at hx;split at hx
      ·exact r7 i x hx
      ·cases hx
    ·exact hs.m.rel b1 k1 g1
   ·intro b1 b2 k1 k2 y1 y2 g1 g2 e1 e2 heq;obtain⟨q1,f1⟩:=f b1 k1 g1;obtain⟨q2,f2⟩:=f b2 k2 g2;exact hs.m.inj b1 b2 q1 q2 y1 y2 f1 f2 e1 e2 heq
   ·intro b1 k1 y g1 e1;obtain⟨q1,f1⟩:=f b1 k1 g1;exact hs.m.fA b1 q1 y f1 e1
   ·intro b1 y hy;obtain⟨q,hq⟩:=hs.fZ b1 y hy;rw [dP];split
    ·exact⟨_,rfl⟩
    ·exact⟨q,hq⟩
   ·intro b1 k1 y g1 e1;obtain⟨q1,f1⟩:=f b1 k1 g1;exact hs.fresh b1 q1 y f1 e1
  have E3:d≠b:=by rintro rfl;rw [hb] at hd;cases hd
  have:=hw.rename (b:=b) (d:=d) (k:=⟨e,E.size,k.xs.take n⟩) (oh:=oh) (by simp [H_]) ow ⟨by simp [EM _ _ E3,hd],pW⟩;refine⟨_,⟨this.n,this.t,?_,?_,?_,this.R0,this.Rn,this.Rb,this.ext,this.d,this.eK⟩,rfl⟩
  ·have hm:=this.m
   have eqv:∀q,lk q ((d,some (⟨e,E.size,k.xs.take n⟩:eI))::(b,none)::s.m)=lk q ((d,some (⟨e,E.size,k.xs.take n⟩:eI))::(b,none)::(b,some (⟨e,E.size,k.xs.take n⟩:eI))::s.m):=by
    intro q;simp only [dP];repeat' split
    all_goals rfl
   exact⟨fun b1 k1 g1=>hm.rel b1 k1 (by rw [←eqv];exact g1),fun b1 b2 k1 k2 y1 y2 g1 g2=>hm.inj b1 b2 k1 k2 y1 y2 (by rw [←eqv];exact g1) (by rw [←eqv];exact g2),fun b1 k1 y g1=>hm.fA b1 k1 y (by rw [←eqv];exact g1),hm.gl⟩
  ·intro q y hy;obtain⟨r,hr⟩:=this.fZ q y hy;refine⟨r,?_⟩;rw [←hr];simp only [dP];repeat' split
   all_goals rfl
  ·intro q k1 y g1 e1;refine this.fresh q k1 y ?_ e1;rw [←g1];simp only [dP];repeat' split
   all_goals rfl
 obtain⟨fQ,jH,rfl⟩:=Zo;by_cases Ir:ys=[]
 ·
  subst Ir;obtain⟨ad,xZ,rfl⟩:=h2.none rfl;simp only [List.append_nil,List.length_nil,Nat.add_zero] at*
  cases h1 with
  |kg x_=>
   rw [x_] at ow;cases ow;exact⟨_,w,_,NI h hk hE none 0 0 (Nat.le_refl _) ad xZ w,jH,.kg (by simp [Ph.up])⟩
  |@arr _ _ _ _ cap hm fO lE tu=>
   rw [fO] at ow;cases ow;have hr:=Rel.arr (w:=w) (R:=R) (φ:=φ.up d (some hm)) (b:=d) (off:=0) (len:=n) (cap:=cap) (h:=hm) (by simp [Ph.up]) lE tu;exact⟨_,w,_,NI h hk hE _ n cap lE ad xZ w,jH,hr⟩
 ·obtain⟨ad,xZ,news,rfl,oy,Is,tr⟩:=h2.some Ir;have Zs:0<ys.length:=List.length_pos_iff.2 Ir;have It:=Zj hz oy hc tr;have NO:cz c φ R {s with m:=(b,none)::s.m} a w:=hs.kill b;have E3:d≠b:=by rintro rfl;rw [hb] at hd;cases hd
  have r8:lk d ((b,none)::s.m)=none:=by rw [EM _ _ E3];exact hd
  have NP:(n+ys.length)*i.bytes≤140737488355328:=by rw [Bg];exact ou
  have NQ:((n+ys.length:Nat):Int)≤9223372036854775807:=by simp only [maxLen] at hlen;omega
  cases h1 with
  |kg x_=>
   rw [x_] at ow;cases ow;simp only [iB] at ox;have fG:=run_append_nil (P:=P) w t ty e i z (pg h hk) hi jk ad ys.length xZ news (by rw [dj];exact oy) Is Zs (by simpa using NQ) (by simp at NP;omega);have tw:=grownCap_ge w ys.length 0 e;have hle:=grownCap_le_maxLen w ys.length 0 e (by simpa using hlen)
   obtain⟨n1,n2⟩:=NO.E0 d ⟨r8,pW⟩ (w':=w.drew.alloc (.cells (news.toArray++Builtin.zeroCells z.cells (grownCap w ys.length 0 e -ys.length)) e)) (T:=e) (n:=E.size) (cap:=grownCap w ys.length 0 e) (C:=news.toArray++Builtin.zeroCells z.cells (grownCap w ys.length 0 e -ys.length)) (xs:=k.xs.take 0++ys) ⟨w.drawn+1,rfl,Nat.le_succ _⟩ hz (by
     rw [Array.size_append,NN,iR,List.size_toArray,oy,←Nat.add_mul];congr 1;omega) (by simpa using tw) hle (fun i x hx=>by
     simp only [List.take_zero,List.nil_append] at hx;obtain⟨q1,q2⟩:=tr i x hx;refine⟨q1,fun j c' hj=>?_⟩;obtain⟨u,hu,hr⟩:=q2 j c' hj;refine⟨u,?_,hr⟩;rw [Array.getElem?_append_left (by simpa using(List.getElem?_eq_some_iff.1 hu).1)];simpa using hu)
   exact⟨_,_,_,fG,n1,by simpa using n2 ys.length tw⟩
  |@arr _ _ _ _ cap hm fO lE tu=>
   rw [fO] at ow;cases ow;simp only [Nat.zero_add,Nat.zero_mul] at tu⊢;obtain⟨r1,r2,r3,r4,C,r5,r6,r7⟩:=ox;have E5:hm.bW=E.size:=by rw [←r1,jj]
   rw [E5] at r6 r7;rw [vk] at r5;subst tu;have hnC:n*E.size≤C.size:=by rw [r6];exact Nat.mul_le_mul_right _ lE
   by_cases Iu:n+ys.length≤hm.cap
   ·have lD:n*i.size+news.length≤C.size:=by rw [dj,oy,r6,←Nat.add_mul];exact Nat.mul_le_mul_right _ Iu
    have fG:=run_append_room (P:=P) w t ty e i (pg h hk) hi hm.cA n hm.cap C r5 ad ys.length xZ news (by rw [dj];exact oy) Is It Iu lD;rw [dj] at fG lD;have Iv:n*E.size+news.length≤C.toList.length:=by simpa using lD
    have lC:=hs.m.fA b k hm hb fO;have r9:∀q,R q→(w.setRow hm.cA (C.toList.take (n*E.size)++news++C.toList.drop (n*E.size+news.length)).toArray).heap[q]?=w.heap[q]?:=fun q hq=>setRow_other w hm.cA q _ (fun e=>lC (e▸hq))
    have Iw:=NM hn r7 tr (C':=(C.toList.take (n*E.size)++news++C.toList.drop (n*E.size+news.length)).toArray) (fun q hq=>by
      rw [xX _ _ _ Iv,if_neg (by omega),Array.getElem?_toList]) (fun q hq=>by
      rw [xX _ _ _ Iv,if_pos (by omega),show n*E.size+q -n*E.size=q by omega])
    have oz:=jH.write (b:=d) (k:=⟨e,E.size,k.xs.take n⟩) (k':=⟨e,E.size,k.xs.take n++ys⟩) (x:=hm) (by simp [H_]) (by simp [Ph.up]) (C.toList.take (n*E.size)++news++C.toList.drop (n*E.size+news.length)).toArray
     ⟨E5.symm,r2,by simp;omega,r4,_,setRow_heap w hm.cA C _ e _ r5,by rw [Ig _ _ _ Iv,E5,←r6];simp,fun i x hx=>by
      rw [E5];obtain⟨q1,q2⟩:=Iw i x hx;refine⟨q1,fun j c' hj=>?_⟩;obtain⟨u,hu,hr⟩:=q2 j c' hj
      exact⟨u,hu,hr.mono r9 (fun _ h=>h) (Ph.Bb _ (by
       cases hq:φ d with
       |none=>rfl
       |some y=>obtain⟨z,hz⟩:=hs.fZ d y hq;rw [hd] at hz;cases hz))⟩⟩
    refine⟨_,_,φ.up d (some hm),fG,⟨oz.n,oz.t,?_,?_,?_,oz.R0,oz.Rn,oz.Rb,oz.ext,oz.d,oz.eK⟩,?_⟩
    ·have E6:=oz.m
     have eqv:∀q,lk q ((d,some (⟨e,E.size,k.xs.take n++ys⟩:eI))::(b,none)::s.m)=lk q ((d,some (⟨e,E.size,k.xs.take n++ys⟩:eI))::(d,some (⟨e,E.size,k.xs.take n⟩:eI))::(b,none)::s.m):=by
      intro q;simp only [dP];repeat' split
      all_goals rfl
     exact⟨fun b1 k1 g1=>E6.rel b1 k1 (by rw [←eqv];exact g1),fun b1 b2 k1 k2 y1 y2 g1 g2=>E6.inj b1 b2 k1 k2 y1 y2 (by rw [←eqv];exact g1) (by rw [←eqv];exact g2),fun b1 k1 y g1=>E6.fA b1 k1 y (by rw [←eqv];exact g1),E6.gl⟩
    ·intro q y hy;obtain⟨r,hr⟩:=oz.fZ q y hy;refine⟨r,?_⟩;rw [←hr];simp only [dP];repeat' split
     all_goals rfl
    ·intro q k1 y g1 e1;refine oz.fresh q k1 y ?_ e1;rw [←g1];simp only [dP];repeat' split
     all_goals rfl
    ·have:=Rel.arr (w:=w.setRow hm.cA (C.toList.take (n*E.size)++news++C.toList.drop (n*E.size+news.length)).toArray) (R:=R) (φ:=φ.up d (some hm)) (b:=d) (off:=0) (len:=n+ys.length) (cap:=hm.cap) (h:=hm) (by simp [Ph.up]) Iu (by simp);simpa using this
   ·have Ix:(C.toList.take (n*E.size)).length=n*E.size:=by simp;omega
    have fG:=run_append_grow (P:=P) w t ty e i z (pg h hk) hi jk ⟨hm.cA,0,none⟩ n hm.cap (C.toList.take (n*E.size)) (by rw [Ix,dj]) (fun j v hj=>by
      rw [q7,Nat.zero_add,cell_of_row w _ _ C _ _ r5];rw [List.getElem?_take] at hj;split at hj
      ·rw [Array.getElem?_toList] at hj;exact hj
      ·cases hj) ad ys.length xZ news (by rw [dj];exact oy) Is (by omega) NQ (growslice_fits (by omega) NP)
    have tw:=grownCap_ge w (n+ys.length) hm.cap e;have hle:=grownCap_le_maxLen w (n+ys.length) hm.cap e hlen;obtain⟨g1,g2⟩:=Zl (C.toList.take (n*E.size)) news (Builtin.zeroCells z.cells (grownCap w (n+ys.length) hm.cap e -(n+ys.length)));rw [Ix] at g1 g2
    have Iw:=NM hn r7 tr (fun q hq=>by
      rw [g1 q hq,List.getElem?_take,if_pos hq,Array.getElem?_toList]) g2
    obtain⟨n1,n2⟩:=NO.E0 d ⟨r8,pW⟩ (w':=w.drew.alloc (.cells ((C.toList.take (n*E.size)).toArray++news.toArray++Builtin.zeroCells z.cells (grownCap w (n+ys.length) hm.cap e -(n+ys.length))) e)) (T:=e) (n:=E.size) (cap:=grownCap w (n+ys.length) hm.cap e) (C:=(C.toList.take (n*E.size)).toArray++news.toArray++Builtin.zeroCells z.cells (grownCap w (n+ys.length) hm.cap e -(n+ys.length))) (xs:=k.xs.take n++ys) ⟨w.drawn+1,rfl,Nat.le_succ _⟩ hz (by
      rw [Array.size_append,Array.size_append,NN,iR,List.size_toArray,List.size_toArray,Ix,oy,←Nat.add_mul,←Nat.add_mul];congr 1;omega) (by simp;omega) hle Iw
    exact⟨_,_,_,by simpa using fG,n1,n2 _ tw⟩
theorem NR {t e d b n:Nat} {x y:Operand} {D E:ae} {k:eI} {ys:List AV} {acc:List Nat} (ho:o.op=l0 .append #[x,y] #[t,t]) (h:az P t=some D) (hk:D.k=.slice e) (hE:az P e=some E) (hz:Nat.blt 0 E.size=true)
  (hx:s.ev x=.arr b 0 n) (hb:lk b s.m=some (some k)) (vk:Nat.beq k.ty e=true) (jj:Nat.beq k.bW E.size=true) (hn:n≤k.xs.length)
  (Zt:(s.ev y=.sl ys∧∀x∈ys,x.cells.length=E.size)∨(s.ev y=.bF∧ys=[])∨∃b' off len k',s.ev y=.arr b' off len∧lk b' s.m=some (some k')∧k'.bW=E.size∧off+len≤k'.xs.length∧ys=(k'.xs.drop off).take len∧b'∈acc)
  (hc:ys.all (fun x=>x.cells.all AV.k_)=true) (ou:(n+ys.length)*E.bytes≤140737488355328) (hlen:n+ys.length≤9223372036854775807):
  cM P o s ⟨.arr d 0 (n+ys.length),[(d,some ⟨e,E.size,k.xs.take n++ys⟩),(b,none)],b::acc,[d]⟩:=by
 intro s' _ bS fE ji;refine tl fun c φ R a w hs=>?_
 have h1:=hs.ev x;rw [bS x (rZ ho x (by simp)),hx] at h1;have h2:=hs.ev y;rw [bS y (rZ ho y (by simp))] at h2;have gH:lk b s'.m=some (some k):=by rw [fE b (by simp)];exact hb
 have hS:Bh w R φ E.size ys (a.eval y):=by
  rcases Zt with⟨hy,hz⟩|⟨hy,rfl⟩|⟨b',off,len,k',hy,ND,Iy,hl,rfl,E7⟩
  ·rw [hy] at h2;exact Zf h2 hz
  ·rw [hy] at h2;exact Zi h2
  ·rw [hy] at h2;exact Zh hs h2 (by rw [fE b' (by simp [E7])];exact ND) Iy hl
 obtain⟨v,w',φ',fG,jH,hv⟩:=Zm (ty:=o.type) hs h hk hE (by simpa using hz) h1 gH (Nat.eq_of_beq_eq_true vk) (Nat.eq_of_beq_eq_true jj) hn hS hc (ji d (by simp)) ou (by simp only [maxLen];exact hlen);exact⟨v,w',φ',R,by simp [vi ho,builtin,fG],cz.app jH o.dst hv⟩
end
def dV (ops:Array Oper) (s:St) (o:Oper):Option Bool:=
 match o.guard with
 |none=>some true
 |some (j,want)=>match ops[j]?with
  |none=>none
  |some oj=>match oj.dst with
   |none=>none
   |some d=>match s.get d with
    |.sc (.bool true)=>some want
    |.sc (.bool false)=>some (!want)
    |.bR []=>some false
    |_=>none
theorem E8 {ops:Array Oper} {c:Ctx} {φ:Ph} {R:Nat→Prop} {s:St} {a:Act} {w:World} {o:Oper} {b:Bool} (hs:cz c φ R s a w) (h:dV ops s o=some b):Region.wanted o (yielded ops a.tmps)=b:=by
 unfold dV at h;unfold Region.wanted;cases hg:o.guard with
 |none=>simp [hg] at h;simp [←h]
 |some p=>
  obtain⟨j,want⟩:=p;simp only [hg] at h⊢;cases hj:ops[j]?with
  |none=>simp [hj] at h
  |some oj=>
   cases hd:oj.dst with
   |none=>simp [hj,hd] at h
   |some d=>
    simp only [hj,hd] at h;have hr:=hs.get d
    have hy:∀v,a.tmps.getD d undef=v→yielded ops a.tmps j=match v with|.bool b=>some b|_=>none:=by
     intro v hv;simp only [yielded,hj,hd,Option.bind_some];rw [Array.getD_eq_getD_getElem?] at hv;cases hq:a.tmps[d]?with
     |none=>rw [hq] at hv;simp [undef] at hv;subst hv;rfl
     |some u=>rw [hq] at hv;simp at hv;subst hv;cases u<;>rfl
    split at h
    ·rename_i he;rw [he] at hr;rw [hy _ hr.gI];cases h;cases b<;>rfl
    ·rename_i he;rw [he] at hr;rw [hy _ hr.gI];cases h;cases want<;>rfl
    ·rename_i he;rw [he] at hr;cases h;generalize hq:a.tmps.getD d undef=q at hr;cases hr with
     |bR hl _=>
      rw [hy _ hq];rfl
    ·cases h
def E9:dN:=⟨.bR [],[],[],[]⟩
structure Item where
 i:Nat
 o:Oper
 e:Option dN
def Item.mC (x:Item):dN:=match x.e with
 |some e=>e
 |none=>E9
def Item.ok (P:Program) (ops:Array Oper) (x:Item) (s:St):Prop:=
 match x.e with
 |some e=>dV ops s x.o=some true∧cM P x.o s e∧∀b∈e.nw,Fr s b
 |none=>dV ops s x.o=some false
def gN (P:Program) (ops:Array Oper) (K:St→Prop):List Item→St→Prop
 |[],s=>K s
 |x::l,s=>x.ok P ops s∧gN P ops K l (s.app x.o.dst x.mC)
structure je (s s':St):Prop where
 n:s.n=s'.n
 t:∀t,lk t s.t=lk t s'.t
 m:∀b,lk b s.m=lk b s'.m
theorem je.symm {s s':St} (h:je s s'):je s' s:=⟨h.n.symm,fun t=>(h.t t).symm,fun b=>(h.m b).symm⟩
theorem je.get {s s':St} (h:je s s') (t:Nat):s.get t=s'.get t:=by simp [St.get,h.t]
theorem je.ev {s s':St} (h:je s s') (x:Operand):s.ev x=s'.ev x:=by cases x<;>simp [St.ev,h.get]
theorem je.Iz {s s':St} (h:je s s') {c:Ctx} {φ:Ph} {R:Nat→Prop} {a:Act} {w:World} (hs:cz c φ R s a w):cz c φ R s' a w:=
 ⟨hs.n.trans h.n,fun t av ht=>hs.t t av (by rw [h.t];exact ht),⟨fun b k hb=>hs.m.rel b k (by rw [h.m];exact hb),fun b b' k k' x x' h1 h2=>hs.m.inj b b' k k' x x' (by rw [h.m];exact h1) (by rw [h.m];exact h2),fun b k x hb=>hs.m.fA b k x (by rw [h.m];exact hb),hs.m.gl⟩,
  fun b x hb=>by obtain⟨y,hy⟩:=hs.fZ b x hb;exact⟨y,by rw [←h.m];exact hy⟩,fun b k x hb=>hs.fresh b k x (by rw [h.m];exact hb),hs.R0,hs.Rn,hs.Rb,hs.ext,hs.d,hs.eK⟩
theorem IA (s:St) (dst:Option Nat) (v:AV) (t:Nat):lk t (s.put dst v).t=if dst=some t∧t<s.n then some v else lk t s.t:=by
 unfold St.put;cases dst with
 |none=>simp
 |some d=>
  by_cases hd:d<s.n
  ·have hb:Nat.blt d s.n=true:=by simpa [Nat.blt_eq] using hd
   simp only [hb,dP];by_cases e:t=d
   ·subst e;simp [hd]
   ·simp [e,Ne.symm e]
  ·have hb:Nat.blt d s.n=false:=by
    cases hx:Nat.blt d s.n
    ·rfl
    ·exact absurd (by simpa [Nat.blt_eq] using hx) hd
   simp only [hb];split
   ·rename_i h;obtain⟨h1,h2⟩:=h;cases h1;exact absurd h2 hd
   ·rfl
theorem je.app {s s':St} (h:je s s') (dst:Option Nat) (e:dN):je (s.app dst e) (s'.app dst e):=
 ⟨h.n,fun t=>by simp only [St.app,IA,h.n,h.t],fun b=>by simp only [St.app,qZ,h.m]⟩
theorem E_ {ops:Array Oper} {s s':St} {o:Oper} (h:∀j want oj d,o.guard=some (j,want)→ops[j]?=some oj→oj.dst=some d→s.get d=s'.get d):dV ops s o=dV ops s' o:=by
 unfold dV;cases hg:o.guard with
 |none=>rfl
 |some p=>
  obtain⟨j,want⟩:=p;dsimp only;cases hj:ops[j]?with
  |none=>rfl
  |some oj=>
   dsimp only;cases hd:oj.dst with
   |none=>rfl
   |some d=>dsimp only;rw [h j want oj d hg hj hd]
theorem cM.congr {P:Program} {o:Oper} {s s':St} {e:dN} (h:cM P o s e) (hn:s'.n=s.n) (bS:∀x∈o.op.operands.toList,s'.ev x=s.ev x) (fE:∀b∈e.acc,lk b s'.m=lk b s.m):cM P o s' e:=
 fun q h1 h2 h3 h4=>h q (h1.trans hn) (fun x hx=>(h2 x hx).trans (bS x hx)) (fun b hb=>(h3 b hb).trans (fE b hb)) h4
theorem Item.Zu {P:Program} {ops:Array Oper} {x:Item} {s s':St} (h:je s s') (hx:x.ok P ops s):x.ok P ops s':=by
 unfold Item.ok at*
 cases he:x.e with
 |none=>
  simp only [he] at hx⊢;rw [←hx];exact E_ fun _ _ _ d _ _ _=>(h.get d).symm
 |some e=>
  simp only [he] at hx⊢;exact⟨(E_ fun _ _ _ d _ _ _=>(h.get d).symm).trans hx.1,hx.2.1.congr h.n.symm (fun y _=>(h.ev y).symm) (fun b _=>(h.m b).symm),fun b hb=>⟨by rw [←h.m];exact(hx.2.2 b hb).1,(hx.2.2 b hb).2⟩⟩
theorem gN.same {P:Program} {ops:Array Oper} {K:St→Prop} (hK:∀s s',je s s'→K s→K s'):∀(l:List Item) {s s':St},je s s'→gN P ops K l s→gN P ops K l s'
 |[],_,_,h,hr=>hK _ _ h hr
 |_::l,_,_,h,hr=>⟨Item.Zu h hr.1,gN.same hK l (h.app _ _) hr.2⟩
def looks (ops:Array Oper) (o:Oper):List Nat:=o.looksAt ops
def E' (l r:List Nat):Bool:=l.all fun x=>!r.contains x
def indep (ops:Array Oper) (x y:Item):Bool:=
 x.o.apart ops y.o&&E' (x.mC.wr.map (·.1)) (y.mC.acc++y.mC.nw++y.mC.wr.map (·.1))&&E' (y.mC.wr.map (·.1)) (x.mC.acc++x.mC.nw)
theorem NS {l r:List Nat} (h:E' l r=true):∀x∈l,x∉r:=by
 intro x hx hr;unfold E' at h;rw [List.all_eq_true] at h;have:=h x hx;simp [hr] at this
theorem IB {α:Type} {b:Nat} {l:List (Nat×α)} (h:b∉l.map (·.1)):lk b l=none:=by
 induction l with
 |nil=>rfl
 |cons p l ih=>
  obtain⟨j,v⟩:=p;simp only [List.map_cons,List.mem_cons,not_or] at h;rw [EM _ _ h.1];exact ih h.2
theorem IC {s:St} {dst:Option Nat} {e:dN} {b:Nat} (h:b∉e.wr.map (·.1)):lk b (s.app dst e).m=lk b s.m:=by
 simp only [St.app,qZ,IB h,Option.none_or]
theorem ID {s:St} {dst:Option Nat} {e:dN} {t:Nat} (h:dst≠some t):(s.app dst e).get t=s.get t:=by
 simp only [St.get,St.app,IA];rw [if_neg (fun hh=>h hh.1)]
theorem NT {s:St} {dst:Option Nat} {e:dN} {x:Operand} (h:∀d,dst=some d→x≠.tmp d):(s.app dst e).ev x=s.ev x:=by
 cases x with
 |tmp t=>exact ID (fun hd=>h t hd rfl)
 |_=>rfl
theorem NU {ops:Array Oper} {o:Oper} {t:Nat} (h:Operand.tmp t∈o.op.operands.toList):t∈o.looksAt ops:=by
 unfold Oper.looksAt;refine List.mem_append.2 (.inl (List.mem_filterMap.2 ⟨_,h,rfl⟩))
theorem NV {ops:Array Oper} {o:Oper} {j:Nat} {want:Bool} {oj:Oper} {d:Nat} (hg:o.guard=some (j,want)) (hj:ops[j]?=some oj) (hd:oj.dst=some d):d∈o.looksAt ops:=by
 unfold Oper.looksAt;refine List.mem_append.2 (.inr ?_);simp [hg,hj,hd]
theorem Zw {P:Program} {ops:Array Oper} {y:Item} {s:St} {dst:Option Nat} {e:dN} (hd:∀d,dst=some d→d∉y.o.looksAt ops) (hw:∀b∈e.wr.map (·.1),b∉y.mC.acc) (h:y.ok P ops (s.app dst e)):y.ok P ops s:=by
 have mD:∀t∈y.o.looksAt ops,(s.app dst e).get t=s.get t:=fun t ht=>ID (fun hh=>hd t hh ht)
 have hg:dV ops (s.app dst e) y.o=dV ops s y.o:=E_ fun j want oj d h1 h2 h3=>mD d (NV h1 h2 h3)
 unfold Item.ok at*
 unfold Item.mC at hw;cases hy:y.e with
 |none=>simp only [hy] at h⊢;rw [←hg];exact h
 |some ey=>
  simp only [hy] at h hw⊢;refine⟨by rw [←hg];exact h.1,h.2.1.congr rfl (fun x hx=>(NT fun d r8 Zy=>?_).symm) (fun b hb=>(IC fun Bj=>hw b Bj hb).symm),fun b hb=>?_⟩
  ·subst Zy;exact hd d r8 (NU hx)
  ·refine⟨?_,(h.2.2 b hb).2⟩;have:=(h.2.2 b hb).1;simp only [St.app,qZ] at this;cases hq:lk b e.wr with
   |none=>simpa [hq] using this
   |some v=>simp [hq] at this
theorem Zz {P:Program} {ops:Array Oper} {x:Item} {s:St} {dst:Option Nat} {e:dN} (hd:∀d,dst=some d→d∉x.o.looksAt ops) (hw:∀b∈e.wr.map (·.1),b∉x.mC.acc++x.mC.nw) (h:x.ok P ops s):x.ok P ops (s.app dst e):=by
 have mD:∀t∈x.o.looksAt ops,(s.app dst e).get t=s.get t:=fun t ht=>ID (fun hh=>hd t hh ht)
 have hg:dV ops (s.app dst e) x.o=dV ops s x.o:=E_ fun j want oj d h1 h2 h3=>mD d (NV h1 h2 h3)
 unfold Item.ok at*
 unfold Item.mC at hw;cases hx:x.e with
 |none=>simp only [hx] at h⊢;rw [hg];exact h
 |some ex=>
  simp only [hx] at h hw⊢;refine⟨by rw [hg];exact h.1,h.2.1.congr rfl (fun y hy=>NT fun d r8 ZA=>?_) (fun b hb=>IC fun Bj=>hw b Bj (List.mem_append.2 (.inl hb))),fun b hb=>?_⟩
  ·subst ZA;exact hd d r8 (NU hy)
  ·refine⟨?_,(h.2.2 b hb).2⟩;rw [IC fun Bj=>hw b Bj (List.mem_append.2 (.inr hb))];exact(h.2.2 b hb).1
theorem ZB {s:St} {d d':Option Nat} {e e':dN} (hd:∀t,d=some t→d'≠some t) (hw:∀b∈e.wr.map (·.1),b∉e'.wr.map (·.1)):je ((s.app d e).app d' e') ((s.app d' e').app d e):=by
 refine⟨rfl,fun t=>?_,fun b=>?_⟩
 ·have h1:∀(q:St) (dd:Option Nat) (ee:dN) (t:Nat),lk t (q.app dd ee).t=if dd=some t∧t<q.n then some ee.v else lk t q.t:=fun q dd ee t=>by simp only [St.app,IA]
  rw [h1,h1,h1,h1];show(if d'=some t∧t<s.n then some e'.v else if d=some t∧t<s.n then some e.v else lk t s.t)=(if d=some t∧t<s.n then some e.v else if d'=some t∧t<s.n then some e'.v else lk t s.t)
  by_cases h2:d=some t∧t<s.n
  ·have h4:¬(d'=some t∧t<s.n):=fun h3=>hd t h2.1 h3.1
   rw [if_neg h4,if_pos h2,if_pos h2]
  ·rw [if_neg h2,if_neg h2]
 ·simp only [St.app,qZ];cases h1:lk b e.wr with
  |none=>simp
  |some v=>
   have hb:b∈e.wr.map (·.1):=by
    refine Classical.byContradiction fun hn=>?_
    rw [IB hn] at h1;cases h1
   rw [IB (hw b hb)];simp
theorem gN.swap {P:Program} {ops:Array Oper} {K:St→Prop} (hK:∀s s',je s s'→K s→K s') {x y:Item} {l:List Item} {s:St} (hi:indep ops x y=true) (h:gN P ops K (x::y::l) s):gN P ops K (y::x::l) s:=by
 unfold indep at hi;simp only [Bool.and_eq_true] at hi;obtain⟨⟨ha,Bk⟩,dx⟩:=hi;obtain⟨a1,a2,a3⟩:=Oper.apart_spec ha;have w1:=NS Bk;have w2:=NS dx;obtain⟨hx,hy,hl⟩:=h;refine⟨Zw a1 (fun b hb hc=>w1 b hb (by simp [hc])) hy,Zz a3 w2 hx,?_⟩
 exact gN.same hK l (ZB a2 (fun b hb hc=>w1 b hb (by
  simp only [List.mem_append];exact .inr hc))) hl
theorem gN.first {P:Program} {ops:Array Oper} {K:St→Prop} (hK:∀s s',je s s'→K s→K s') {y:Item} {l:List Item}:∀(pre:List Item) {s:St},(∀x∈pre,indep ops x y=true)→gN P ops K (pre++y::l) s→gN P ops K (y::(pre++l)) s
 |[],_,_,h=>h
 |x::pre,s,hi,h=>by
  have h1:gN P ops K (x::y::(pre++l)) s:=⟨h.1,gN.first hK pre (fun z hz=>hi z (by simp [hz])) h.2⟩
  exact gN.swap hK (hi x (by simp)) h1
theorem IE {P:Program} {ops:Array Oper} {Q:Exit→Act→World→Prop} {x:Item} {s:St} {c:Ctx} {a:Act} {w:World} {K:Act→World→Prop} (hx:ops[x.i]?=some x.o) (h:x.ok P ops s) (hs:dh c s a w) (hK:∀a' w',dh c (s.app x.o.dst x.mC) a' w'→K a' w'):wpOp P ops Q x.i K a w:=by
 obtain⟨φ,R,cR⟩:=hs;unfold wpOp;simp only [hx];unfold Item.ok at h;unfold Item.mC at hK;cases he:x.e with
 |none=>
  simp only [he] at h hK;rw [E8 cR h];simp only [Bool.false_eq_true,if_false];exact hK _ _ ⟨φ,R,cz.app (s:=s) (m:=s.m) cR x.o.dst (.bR rfl (by simp))⟩
 |some e=>
  simp only [he] at h hK;rw [E8 cR h.1];simp only [if_true];exact .inl (h.2.1 s rfl (fun _ _=>rfl) (fun _ _=>rfl) h.2.2 c a w K Q ⟨φ,R,cR⟩ hK)
theorem Fa {P:Program} {ops:Array Oper} {Q:Exit→Act→World→Prop} {c:Ctx} {K:St→Prop} (hK:∀s a w,K s→dh c s a w→Q .normal a w):∀(l:List Item) (s:St) (a:Act) (w:World),(∀x∈l,ops[x.i]?=some x.o)→gN P ops K l s→dh c s a w→wpOps P ops Q (l.map (·.i)) a w
 |[],s,a,w,_,h,hs=>hK s a w h hs
 |x::l,s,a,w,hi,h,hs=>by
  rw [List.map_cons,wpOps_cons];exact IE (hi x (by simp)) h.1 hs (fun a' w' cu=>Fa hK l _ a' w' (fun y hy=>hi y (by simp [hy])) h.2 cu)
def ph (e:Edge):Bool:=Region.binds .any e
def oA (ops:List Oper):List Nat:=
 go ops []
where
 one (acc:List Nat):List Edge→Nat
  |[]=>0
  |e::l=>match ph e with
   |true=>(2^e.on|||acc.getD e.on 0)|||one acc l
   |false=>one acc l
 go:List Oper→List Nat→List Nat
  |[],acc=>acc
  |o::l,acc=>go l (acc++[one acc o.after.toList])
def ya:List Oper→Nat→Bool
 |[],_=>true
 |o::l,k=>(o.after.toList.all fun e=>!ph e||Nat.blt e.on k)&&ya l (k+1)
def r_ (ops:Array Oper) (ms:List Nat):List Item→Bool
 |[]=>true
 |x::l=>(l.all fun y=>(ms.getD y.i 0).testBit x.i||indep ops x y)&&r_ ops ms l
def vl (ops:Array Oper) (l:List Item):Bool:=ya ops.toList 0&&r_ ops (oA ops.toList) l
def Down (ops:Array Oper) (listed:Nat→Prop):Prop:=∀j o,ops[j]?=some o→listed j→∀e∈o.after,ph e=true→listed e.on
theorem IF {ops:Array Oper} {listed:Nat→Prop} (hd:Down ops listed) {acc:List Nat} (fE:∀j i,(acc.getD j 0).testBit i=true→(∃o,ops[j]?=some o∧∀e∈o.after,ph e=true→listed e.on)→listed i) (q_:∀j,listed j→∃o,ops[j]?=some o):
  ∀(l:List Edge) (i:Nat),(oA.one acc l).testBit i=true→(∀e∈l,ph e=true→listed e.on)→listed i
 |[],i,h,_=>by simp [oA.one] at h
 |e::l,i,h,hl=>by
  simp only [oA.one] at h;cases he:ph e with
  |false=>rw [he] at h;exact IF hd fE q_ l i h (fun e' vb=>hl e' (by simp [vb]))
  |true=>
   rw [he] at h;simp only [Nat.testBit_or,Bool.or_eq_true,Nat.testBit_two_pow,decide_eq_true_eq] at h;have IG:=hl e (by simp) he;rcases h with(h|h)|h
   ·exact h▸IG
   ·obtain⟨o,ho⟩:=q_ _ IG;exact fE e.on i h ⟨o,ho,fun e' vb hh=>hd e.on o ho IG e' vb hh⟩
   ·exact IF hd fE q_ l i h (fun e' vb=>hl e' (by simp [vb]))
theorem NW {ops:Array Oper} {listed:Nat→Prop} (hd:Down ops listed) (q_:∀j,listed j→∃o,ops[j]?=some o):∀(l:List Oper) (acc:List Nat),(∀k,l[k]?=ops[acc.length+k]?)→
  (∀j i,(acc.getD j 0).testBit i=true→(∃o,ops[j]?=some o∧∀e∈o.after,ph e=true→listed e.on)→listed i)→
  ∀j i,((oA.go l acc).getD j 0).testBit i=true→(∃o,ops[j]?=some o∧∀e∈o.after,ph e=true→listed e.on)→listed i
 |[],acc,_,fE=>fE
 |o::l,acc,hl,fE=>by
  simp only [oA.go];refine NW hd q_ l (acc++[oA.one acc o.after.toList]) (fun k=>?_) ?_
  ·have:=hl (k+1);simp only [List.getElem?_cons_succ] at this;rw [this];congr 1;simp;omega
  ·intro j i hb hj;by_cases eR:j<acc.length
   ·refine fE j i ?_ hj;rwa [List.getD_eq_getElem?_getD,List.getElem?_append_left eR,←List.getD_eq_getElem?_getD] at hb
   ·by_cases ZC:j=acc.length
    ·subst ZC;have h0:=hl 0;simp at h0;obtain⟨o',fF,hh⟩:=hj;rw [←h0] at fF;cases fF;rw [List.getD_eq_getElem?_getD] at hb;simp at hb;exact IF hd fE q_ o.after.toList i hb (fun e he=>hh e (by simpa using he))
    ·rw [List.getD_eq_getElem?_getD,List.getElem?_eq_none (by simp;omega)] at hb;simp at hb
theorem ZD {ops:Array Oper} {listed:Nat→Prop} (hd:Down ops listed) (q_:∀j,listed j→∃o,ops[j]?=some o) (j i:Nat) (h:((oA ops.toList).getD j 0).testBit i=true) {o:Oper} (ho:ops[j]?=some o) (hl:∀e∈o.after,ph e=true→listed e.on):listed i:=
 NW hd q_ ops.toList [] (by simp) (by simp) j i h ⟨o,ho,hl⟩
theorem NX {ops:Array Oper}:∀(l:List Oper) (k:Nat),(∀q,l[q]?=ops[k+q]?)→ya l k=true→∀j o,k≤j→ops[j]?=some o→∀e∈o.after,ph e=true→e.on<j
 |[],k,hl,_,j,o,hj,ho=>by
  have:=hl (j -k);rw [show k+(j -k)=j by omega,ho] at this
  simp at this
 |o::l,k,hl,h,j,o',hj,fF=>by
  simp only [ya,Bool.and_eq_true] at h;by_cases e:j=k
  ·subst e;have:=hl 0;simp at this;rw [←this] at fF;cases fF;intro e he hh;have h1:=h.1;rw [List.all_eq_true] at h1;have:=h1 e (by simpa using he);simpa [hh] using this
  ·exact NX l (k+1) (fun q=>by
    have:=hl (q+1);simp only [List.getElem?_cons_succ] at this;rw [this];congr 1;omega) h.2 j o' (by omega) fF
theorem mem_ready {ops:Array Oper} {listed:Array Bool} {i:Nat} (h:i∈Region.ready .any ops listed):i<ops.size∧listed.getD i true=false∧∃o,ops[i]?=some o∧∀e∈o.after,ph e=true→listed.getD e.on false=true:=by
 unfold Region.ready at h;rw [List.mem_filter] at h;obtain⟨h1,h2⟩:=h;simp only [Bool.and_eq_true,Bool.not_eq_true'] at h2;cases ho:ops[i]?with
 |none=>simp [ho] at h2
 |some o=>
  simp only [ho,Option.map_some,Option.getD_some] at h2;refine⟨by simpa using h1,h2.1,o,rfl,fun e he hh=>?_⟩;have:=Array.all_eq_true.1 h2.2;obtain⟨q,hq,ZE⟩:=Array.mem_iff_getElem.1 he;have:=this q hq;rw [ZE] at this;have hb:Region.binds .any e=true:=hh;rw [hb] at this;simpa using this
theorem ZF {ops:Array Oper} {listed:Array Bool} {i:Nat} {o:Oper} (ho:ops[i]?=some o) (hi:listed.getD i true=false) (h:∀e∈o.after,ph e=true→listed.getD e.on false=true):i∈Region.ready .any ops listed:=by
 unfold Region.ready;rw [List.mem_filter];refine⟨by simpa using(Array.getElem?_eq_some_iff.1 ho).1,?_⟩;simp only [hi,Bool.not_false,Bool.true_and,ho,Option.map_some,Option.getD_some];rw [Array.all_eq_true];intro q hq;have:=h o.after[q] (Array.getElem_mem hq);cases hb:Region.binds .any o.after[q] with
 |false=>simp
 |true=>simp [this hb]
theorem NY {P:Program} {ops:Array Oper} {Q:Exit→Act→World→Prop} {c:Ctx} {K:St→Prop} (Bl:∀s s',je s s'→K s→K s') (hK:∀s a w,K s→dh c s a w→Q .normal a w) (oB:ya ops.toList 0=true):
  ∀(n:Nat) (l:List Item) (listed:Array Bool) (s:St) (a:Act) (w:World),l.length=n→listed.size=ops.size→(∀x∈l,ops[x.i]?=some x.o)→(l.map (·.i)).Pairwise (·<·)→
   (∀i,i<ops.size→(listed.getD i true=false↔i∈l.map (·.i)))→Down ops (fun j=>listed.getD j false=true)→r_ ops (oA ops.toList) l=true→gN P ops K l s→dh c s a w→
   wpAny P .any ops Q n listed a w:=by
 intro n
 induction n with
 |zero=>
  intro l listed s a w hn dj hi hs vm IH hp hr ox;have:l=[]:=List.eq_nil_of_length_eq_zero hn;subst this;refine⟨?_,hK s a w hr ox⟩;refine List.eq_nil_iff_forall_not_mem.2 fun i nD=>?_
  obtain⟨h1,h2,_⟩:=mem_ready nD;simpa using(vm i h1).1 h2
 |succ n ih=>
  intro l listed s a w hn dj hi hs vm IH hp hr ox
  have gd:∀j,j<ops.size→listed.getD j true=listed.getD j false:=fun j hj=>by
   simp [Array.getD_eq_getD_getElem?,dj,hj]
  refine⟨fun ZG=>?_,fun i nD=>?_⟩
  ·
   exfalso
   match l,hn with
   |x::l,_=>
    have II:=hi x (by simp);have kh:x.i<ops.size:=(Array.getElem?_eq_some_iff.1 II).1
    have:x.i∈Region.ready .any ops listed:=ZF II ((vm x.i kh).2 (by simp)) (fun e he hh=>by
     have bB:=NX ops.toList 0 (by simp) oB x.i x.o (Nat.zero_le _) II e he hh;have iS:e.on<ops.size:=by omega
     rw [←gd _ iS];cases hq:listed.getD e.on true with
     |true=>rfl
     |false=>
      have hm:=(vm e.on iS).1 hq;simp only [List.map_cons,List.mem_cons] at hm;rcases hm with hm|hm
      ·omega
      ·simp only [List.map_cons,List.pairwise_cons] at hs;have:=hs.1 _ hm;omega)
    rw [ZG] at this;cases this
  ·obtain⟨Iq,ZH,o,ho,yb⟩:=mem_ready nD;have fP:=(vm i Iq).1 ZH;obtain⟨y,hy,IJ⟩:=List.mem_map.1 fP;obtain⟨pre,post,rfl⟩:=List.append_of_mem hy;subst IJ;have NZ:=hi y (by simp);rw [ho] at NZ;cases NZ
   have q_:∀j,listed.getD j false=true→∃o,ops[j]?=some o:=by
    intro j hj
    have bB:j<listed.size:=by
     rcases Nat.lt_or_ge j listed.size with h|h
     ·exact h
     ·simp [Array.getD_eq_getD_getElem?,Array.getElem?_eq_none h] at hj
    exact⟨ops[j]'(by omega),by simp⟩
   have ZI:∀x∈pre,indep ops x y=true:=by
    intro x hx
    have ZJ:∀(pre:List Item),r_ ops (oA ops.toList) (pre++y::post)=true→∀x∈pre,((oA ops.toList).getD y.i 0).testBit x.i=true∨indep ops x y=true:=by
     intro pre
     induction pre with
     |nil=>intro _ x hx;cases hx
     |cons z pre IK=>
      intro IL x hx;simp only [List.cons_append,r_,Bool.and_eq_true] at IL;rcases List.mem_cons.1 hx with rfl|hx
      ·have:=List.all_eq_true.1 IL.1 y (by simp);simpa using this
      ·exact IK IL.2 x hx
    rcases ZJ pre hp x hx with h|h
    ·exfalso;have hl:=ZD IH q_ y.i x.i h ho yb;have kh:x.i<ops.size:=(Array.getElem?_eq_some_iff.1 (hi x (by simp [hx]))).1;have:=(vm x.i kh).2 (by simp;exact .inl ⟨x,hx,rfl⟩);rw [gd _ kh,hl] at this;cases this
    ·exact h
   have fG:=gN.first Bl pre ZI hr
   refine IE (hi y (by simp)) fG.1 ox (fun a' w' ZK=>?_);refine ih (pre++post) (listed.setIfInBounds y.i true) _ a' w' (by simp at hn⊢;omega) (by simpa using dj) (fun x hx=>hi x (by simp at hx⊢;rcases hx with h|h;exact .inl h;exact .inr (.inr h))) ?_ ?_ ?_ ?_ fG.2 ZK
   ·simp only [List.map_append,List.map_cons] at hs⊢;exact hs.sublist (List.Sublist.append_left (List.sublist_cons_self _ _) _)
   ·intro j hj;have IM:y.i<listed.size:=by omega
    have tx:y.i∉(pre++post).map (·.i):=by
     simp only [List.map_append,List.map_cons] at hs⊢;rw [List.pairwise_append] at hs;intro hm;rcases List.mem_append.1 hm with h|h
     ·have:=hs.2.2 _ h y.i (by simp);omega
     ·have:=(List.pairwise_cons.1 hs.2.1).1 _ h;omega
    by_cases e:j=y.i
    ·subst e;simp only [Array.getD_eq_getD_getElem?,Array.getElem?_setIfInBounds,IM];simp only [if_true,Option.getD_some,Bool.true_eq_false,false_iff];exact tx
    ·have h1:(listed.setIfInBounds y.i true).getD j true=listed.getD j true:=by
      simp only [Array.getD_eq_getD_getElem?,Array.getElem?_setIfInBounds_ne (Ne.symm e)]
     rw [h1,vm j hj];simp only [List.map_append,List.map_cons,List.mem_append,List.mem_cons];constructor
     ·rintro(h|h|h)
      ·exact .inl h
      ·exact absurd h e
      ·exact .inr h
     ·rintro(h|h)
      ·exact .inl h
      ·exact .inr (.inr h)
   ·intro j oj IN hj e he hh;have IM:y.i<listed.size:=by omega
    have up:∀q,listed.getD q false=true→(listed.setIfInBounds y.i true).getD q false=true:=by
     intro q hq;by_cases e:q=y.i
     ·subst e;simp [Array.getD_eq_getD_getElem?,IM]
     ·rw [Array.getD_eq_getD_getElem?,Array.getElem?_setIfInBounds_ne (Ne.symm e),←Array.getD_eq_getD_getElem?];exact hq
    by_cases ej:j=y.i
    ·subst ej;rw [ho] at IN;cases IN;exact up _ (yb e he hh)
    ·rw [Array.getD_eq_getD_getElem?,Array.getElem?_setIfInBounds_ne (Ne.symm ej),←Array.getD_eq_getD_getElem?] at hj;exact up _ (IH j oj IN hj e he hh)
   ·have Bm:∀(pre:List Item),r_ ops (oA ops.toList) (pre++y::post)=true→r_ ops (oA ops.toList) (pre++post)=true:=by
     intro pre
     induction pre with
     |nil=>intro h;simp only [List.nil_append,r_,Bool.and_eq_true] at h⊢;exact h.2
     |cons z pre IK=>
      intro h;simp only [List.cons_append,r_,Bool.and_eq_true] at h⊢;refine⟨?_,IK h.2⟩;rw [List.all_eq_true] at h⊢;intro q hq;exact h.1 q (by simp at hq⊢;rcases hq with hq|hq;exact .inl hq;exact .inr (.inr hq))
    exact Bm pre hp
def items:Nat→List Oper→List (Option dN)→List Item
 |k,o::l,e::r=>⟨k,o,e⟩::items (k+1) l r
 |_,_,_=>[]
theorem vn:∀(l:List Oper) (r:List (Option dN)) (k:Nat),l.length=r.length→(items k l r).map (·.i)=(List.range l.length).map (k+·)∧∀x∈items k l r,k≤x.i∧l[x.i -k]?=some x.o
 |[],[],k,_=>by simp [items]
 |o::l,e::r,k,h=>by
  obtain⟨h1,h2⟩:=vn l r (k+1) (by simpa using h);refine⟨?_,fun x hx=>?_⟩
  ·simp only [items,List.map_cons,h1,List.length_cons,List.range_succ_eq_map,List.map_map,Nat.add_zero,List.cons.injEq,true_and];apply List.map_congr_left;intro a _;simp;omega
  ·simp only [items,List.mem_cons] at hx;rcases hx with rfl|hx
   ·simp
   ·obtain⟨q1,q2⟩:=h2 x hx;refine⟨by omega,?_⟩;rw [show x.i -k=(x.i -(k+1))+1 by omega]
    simpa using q2
 |[],_::_,k,h=>by simp at h
 |_::_,[],k,h=>by simp at h
theorem ZL {P:Program} {id:Nat} {ops:Array Oper} {draw:Bool} {Q:Exit→Act→World→Prop} {c:Ctx} {K:St→Prop} {s:St} {a:Act} {w:World} {r:List (Option dN)} (Bl:∀s s',je s s'→K s→K s') (hK:∀s a w,K s→dh c s a w→Q .normal a w)
  (hlen:ops.toList.length=r.length) (bX:P.follows .mixedOrders=true) (vo:draw=true→vl ops (items 0 ops.toList r)=true) (hr:gN P ops K (items 0 ops.toList r) s) (hs:dh c s a w):(Code.region id ops draw).wp P Q a w:=by
 obtain⟨h1,h2⟩:=vn ops.toList r 0 hlen
 have vt:∀x∈items 0 ops.toList r,ops[x.i]?=some x.o:=fun x hx=>by
  have:=(h2 x hx).2;simpa using this
 cases draw with
 |false=>
  refine wp_region ?_;have:=Fa hK _ s a w vt hr hs;rw [h1] at this;simpa using this
 |true=>
  refine wp_region_any bX ?_;have ec:=vo rfl;unfold vl at ec;simp only [Bool.and_eq_true] at ec
  have hl:(items 0 ops.toList r).length=ops.size:=by
   have:=congrArg List.length h1;simpa using this
  have cu:dh c s a {w with drawn:=w.drawn+1}:=by
   obtain⟨φ,R,q⟩:=hs;have e:=q.ext.trans (G':=fun _=>False) (c:={w with drawn:=w.drawn+1}) ⟨rfl,rfl,rfl,Nat.le_succ _,Nat.le_refl _,fun _ _ _=>rfl⟩ (fun _ _ h=>h.elim);refine⟨φ,R,q.n,fun t av ht=>(q.t t av ht).mono (fun _ _=>rfl) (fun _ h=>h) (fun _ _ h=>h),⟨fun b k hb=>?_,q.m.inj,q.m.fA,q.m.gl.mono (fun _ _=>rfl) (fun _ h=>h)⟩,q.fZ,q.fresh,q.R0,q.Rn,q.Rb,e,q.d,q.eK⟩;obtain⟨oh,ho,hr⟩:=q.m.rel b k hb;exact⟨oh,ho,hr.mono (fun _ _=>rfl) (fun _ _=>rfl) (fun _ _ h=>h)⟩
  refine NY Bl hK ec.1 ops.size _ _ s a _ hl (by simp) vt ?_ ?_ ?_ ec.2 hr cu
  ·rw [h1];simp only [Nat.zero_add,List.map_id'];exact List.pairwise_lt_range
  ·intro i hi;rw [h1];simp [Array.getD_eq_getD_getElem?,hi]
  ·intro j o ho hj;simp [Array.getD_eq_getD_getElem?,(Array.getElem?_eq_some_iff.1 ho).1] at hj
abbrev Mem:=List (Nat×Option eI)
abbrev cC:=List (Nat×Option Nat)
def tz:Value→Value→Prop
 |.int k a,.int k' b=>k=k'∧a=b
 |.bool a,.bool b=>a=b
 |v,u=>v=u
theorem ZN {v u:Value} (h:tz v u):v=u:=by
 unfold tz at h;split at h
 ·obtain⟨rfl,rfl⟩:=h;rfl
 ·rw [h]
 ·exact h
mutual
def eE:AV→Bool
 |.ref _ _ _|.arr _ _ _|.iQ _ _ _=>false
 |.cE _ a b=>ra a&&ra b
 |.agg cs=>ra cs
 |.bR cs=>ra cs
 |_=>true
def ra:List AV→Bool
 |[]=>true
 |c::cs=>eE c&&ra cs
end
mutual
def hZ:AV→Bool
 |.sl xs=>xs.isEmpty
 |.vp _=>false
 |.iQ _ _ _=>false
 |.jd _=>false
 |.agg cs=>vu cs
 |.bR cs=>vu cs
 |.cE _ a b=>vu a&&vu b
 |_=>true
def vu:List AV→Bool
 |[]=>true
 |c::cs=>hZ c&&vu cs
end
theorem vw {cs:List AV} (h:ra cs=true):∀(i:Nat) (c:AV),cs[i]?=some c→eE c=true:=by
 induction cs with
 |nil=>intro i c hc;simp at hc
 |cons d ds ih=>
  simp only [ra,Bool.and_eq_true] at h;intro i c hc;cases i with
  |zero=>simp at hc;subst hc;exact h.1
  |succ i=>exact ih h.2 i c (by simpa using hc)
theorem Bn {cs:List AV} (h:vu cs=true):∀(i:Nat) (c:AV),cs[i]?=some c→hZ c=true:=by
 induction cs with
 |nil=>intro i c hc;simp at hc
 |cons d ds ih=>
  simp only [vu,Bool.and_eq_true] at h;intro i c hc;cases i with
  |zero=>simp at hc;subst hc;exact h.1
  |succ i=>exact ih h.2 i c (by simpa using hc)
theorem Rel.eE {w:World} {R:Nat→Prop} {φ φ':Ph} {a:AV} {v:Value} (h:Rel w R φ a v) (hn:eE a=true):Rel w R φ' a v:=by
 induction h generalizing φ' with
 |bot=>exact .bot
 |sc h=>exact .sc h
 |bF=>exact .bF
 |agg hl _ ih=>exact .agg hl fun i c v h1 h2=>ih i c v h1 h2 (vw (by simpa [Ab.eE] using hn) i c h1)
 |bR hl _ ih=>exact .bR hl fun i c v h1 h2=>ih i c v h1 h2 (vw (by simpa [Ab.eE] using hn) i c h1)
 |jG=>exact .jG
 |sl f he hR lZ hl hc hr _=>exact .sl f he hR lZ hl hc hr
 |vp f hR hc hr _=>exact .vp f hR hc hr
 |ref hb=>simp [Ab.eE] at hn
 |arr hb hl hc=>simp [Ab.eE] at hn
 |kg hb=>simp [Ab.eE] at hn
 |cE hf hc _ _ rW rX=>
  simp only [Ab.eE,Bool.and_eq_true] at hn;exact .cE hf hc (fun i c v h1 h2=>rW i c v h1 h2 (vw hn.1 i c h1)) (fun i c v h1 h2=>rX i c v h1 h2 (vw hn.2 i c h1))
 |iQ hd hR hc he=>simp [Ab.eE] at hn
 |jd _ ih=>exact .jd (ih (by simp [Ab.eE]))
theorem Rel.hZ {w:World} {R R':Nat→Prop} {φ:Ph} {a:AV} {v:Value} (h:Rel w R φ a v) (hn:hZ a=true):Rel w R' φ a v:=by
 induction h with
 |bot=>exact .bot
 |sc h=>exact .sc h
 |bF=>exact .bF
 |agg hl _ ih=>exact .agg hl fun i c v h1 h2=>ih i c v h1 h2 (Bn (by simpa [Ab.hZ] using hn) i c h1)
 |bR hl _ ih=>exact .bR hl fun i c v h1 h2=>ih i c v h1 h2 (Bn (by simpa [Ab.hZ] using hn) i c h1)
 |jG=>exact .jG
 |@sl _ xs b o cap e f he hR lZ hl hc hr _=>
  simp [Ab.hZ] at hn;subst hn;exact .jG
 |vp f hR hc hr _=>simp [Ab.hZ] at hn
 |ref hb=>exact .ref hb
 |arr hb hl hc=>exact .arr hb hl hc
 |kg hb=>exact .kg hb
 |cE hf hc _ _ rW rX=>
  simp only [Ab.hZ,Bool.and_eq_true] at hn;exact .cE hf hc (fun i c v h1 h2=>rW i c v h1 h2 (Bn hn.1 i c h1)) (fun i c v h1 h2=>rX i c v h1 h2 (Bn hn.2 i c h1))
 |iQ hd hR hc he=>simp [Ab.hZ] at hn
 |jd _ _=>simp [Ab.hZ] at hn
def yc (m:Mem) (b off len:Nat) (ys:List AV):Prop:=
 match lk b m with
 |some (some k)=>off+len≤k.xs.length∧ys=(k.xs.drop off).take len∧∀y∈ys,eE y=true
 |_=>False
def Fb (m:Mem) (b i off:Nat) (ys:List AV):Prop:=
 match lk b m with
 |some (some k)=>i=0∧off=0∧∃e,k.xs[0]?=some e∧ys=e.cells∧∀(j:Nat) (y:AV),ys[j]?=some y→eE y=true
 |_=>False
mutual
def bE (m:Mem) (ρ:cC):AV→AV→Prop
 |_,.bot=>True
 |.sc v,.sc u=>tz v u
 |.bF,.bF=>True
 |.bF,.sl ys=>ys=[]
 |.bF,.arr b off len=>lk b ρ=some none∧off=0∧len=0
 |.sl xs,.sl ys=>xs=ys
 |.vp xs,.vp ys=>xs=ys
 |.jd xs,.jd ys=>xs=ys
 |.iQ d r xs,.iQ d' r' ys=>lk d' ρ=some (some d)∧r=r'∧xs=ys
 |.ref b i off,.ref b' i' IP=>lk b' ρ=some (some b)∧i=i'∧off=IP
 |.arr b off len,.arr b' IP ZO=>lk b' ρ=some (some b)∧off=IP∧len=ZO
 |.arr b off len,.sl ys=>yc m b off len ys
 |.ref b i off,.vp ys=>Fb m b i off ys
 |.agg cs,.agg ds=>gb m ρ cs ds
 |.bR cs,.bR ds=>gb m ρ cs ds
 |.cE f a b,.cE f' a' b'=>f=f'∧gb m ρ a a'∧gb m ρ b b'
 |_,_=>False
def gb (m:Mem) (ρ:cC):List AV→List AV→Prop
 |[],[]=>True
 |c::cs,d::ds=>bE m ρ c d∧gb m ρ cs ds
 |_,_=>False
end
theorem l_ {m:Mem} {ρ:cC}:∀{cs ds:List AV},gb m ρ cs ds→cs.length=ds.length∧∀(i:Nat) (c d:AV),cs[i]?=some c→ds[i]?=some d→bE m ρ c d
 |[],[],_=>⟨rfl,fun i c d h=>by simp at h⟩
 |c::cs,d::ds,h=>by
  simp only [gb] at h;obtain⟨h1,h2⟩:=l_ h.2;refine⟨by simp [h1],fun i c' d' hc hd=>?_⟩;cases i with
  |zero=>simp at hc hd;subst hc;subst hd;exact h.1
  |succ i=>exact h2 i c' d' (by simpa using hc) (by simpa using hd)
 |[],_::_,h=>by simp [gb] at h
 |_::_,[],h=>by simp [gb] at h
def Ph.via (φ:Ph) (ρ:cC):Ph:=fun b'=>match lk b' ρ with
 |some (some b)=>φ b
 |some none=>some none
 |none=>none
theorem mE {φ:Ph} {R:Nat→Prop} {mm:Mem} {w:World} (hs:gq w R φ mm) {m:Mem} {ρ:cC} {R':Nat→Prop} (hR:∀n,R n→R' n) (hm:∀b k h,lk b m=some (some k)→φ b=some (some h)→lk b mm=some (some k)∧R' h.cA) {x y:AV} {v:Value} (h:Rel w R φ x v) (hw:bE m ρ x y):Rel w R' (φ.via ρ) y v:=by
 induction h generalizing y with
 |bot=>cases y<;>simp [bE] at hw;exact .bot
 |sc hf=>
  cases y<;>simp only [bE] at hw
  ·exact .bot
  ·have:=ZN hw;subst this;exact .sc hf
 |bF=>
  cases y<;>simp only [bE] at hw
  ·exact .bot
  ·exact .bF
  ·subst hw;exact .jG
  ·obtain⟨h1,rfl,rfl⟩:=hw;exact .kg (by simp [Ph.via,h1])
 |agg hl _ ih=>
  cases y<;>simp only [bE] at hw
  ·exact .bot
  ·obtain⟨g1,g2⟩:=l_ hw;refine .agg (g1▸hl) fun i d v hd hv=>?_
   have bB:=(List.getElem?_eq_some_iff.1 hd).1;exact ih i _ v (List.getElem?_eq_getElem (by omega)) hv hs hm (g2 i _ d (List.getElem?_eq_getElem (by omega)) hd)
 |bR hl _ ih=>
  cases y<;>simp only [bE] at hw
  ·exact .bot
  ·obtain⟨g1,g2⟩:=l_ hw;refine .bR (g1▸hl) fun i d v hd hv=>?_
   have bB:=(List.getElem?_eq_some_iff.1 hd).1;exact ih i _ v (List.getElem?_eq_getElem (by omega)) hv hs hm (g2 i _ d (List.getElem?_eq_getElem (by omega)) hd)
 |jG=>
  cases y<;>simp only [bE] at hw
  ·exact .bot
  ·subst hw;exact .jG
 |sl f he eJ lZ hl hc hr _=>
  cases y<;>simp only [bE] at hw
  ·exact .bot
  ·subst hw;exact(Rel.sl f he eJ lZ hl hc hr).mono (φ:=Ph.no) (fun _ _=>rfl) hR (fun b x hb=>by simp [Ph.no] at hb)
 |vp f eJ hc hr _=>
  cases y<;>simp only [bE] at hw
  ·exact .bot
  ·subst hw;exact(Rel.vp f eJ hc hr).mono (φ:=Ph.no) (fun _ _=>rfl) hR (fun b x hb=>by simp [Ph.no] at hb)
 |@ref φ b i off h hb=>
  cases y<;>simp only [bE] at hw
  ·exact .bot
  ·rename_i ys;unfold Fb at hw;cases hq:lk b m with
   |none=>simp [hq] at hw
   |some ok=>
    cases ok with
    |none=>simp [hq] at hw
    |some k=>
     simp only [hq] at hw;obtain⟨rfl,rfl,e,h1,h2,h3⟩:=hw;obtain⟨g1,g2⟩:=hm b k h hq hb;obtain⟨oh,ho,hr⟩:=hs.rel b k g1;rw [hb] at ho;cases ho;obtain⟨r1,r2,r3,r4,C,r5,r6,r7⟩:=hr;obtain⟨q1,q2⟩:=r7 0 e h1;refine .vp (fun q=>C[0*h.bW+q]?.getD undef) g2 (fun q mB=>?_) (fun j c' hj=>?_)
     ·rw [cell_of_row w _ _ C _ _ r5];obtain⟨u,hu,_⟩:=q2 q (ys[q]) (by rw [←h2];simp [mB]);rw [Nat.add_zero,hu];rfl
     ·obtain⟨u,hu,gL⟩:=q2 j c' (by rw [←h2];exact hj);rw [hu];exact(gL.eE (φ':=Ph.no) (h3 j c' hj)).mono (fun _ _=>rfl) hR (fun _ _ h=>h)
  ·obtain⟨h1,rfl,rfl⟩:=hw;exact .ref (by simp [Ph.via,h1,hb])
 |@arr φ b off len cap h hb hl hc=>
  cases y<;>simp only [bE] at hw
  ·exact .bot
  ·
   rename_i ys;unfold yc at hw;cases hq:lk b m with
   |none=>simp [hq] at hw
   |some ok=>
    cases ok with
    |none=>simp [hq] at hw
    |some k=>
     simp only [hq] at hw;obtain⟨h1,h2,h3⟩:=hw;obtain⟨g1,g2⟩:=hm b k h hq hb;obtain⟨oh,ho,hr⟩:=hs.rel b k g1;rw [hb] at ho;cases ho;obtain⟨r1,r2,r3,r4,C,r5,r6,r7⟩:=hr;have hlen:ys.length=len:=by rw [h2];simp;omega
     rw [←hlen];rw [←hlen] at hl;refine .sl (e:=h.bW) (fun q=>C[off*h.bW+q]?.getD undef) r2 g2 hl (fun i x hx=>?_) (fun q mB=>?_) (fun i x j c' hx hj=>?_)
     ·rw [h2,List.getElem?_take] at hx;split at hx
      ·rw [List.getElem?_drop] at hx;exact(r7 _ x hx).1
      ·cases hx
     ·have bB:off*h.bW+q<C.size:=by
       rw [r6];have:=Nat.mul_le_mul_right h.bW (show off+ys.length≤h.cap by omega)
       rw [Nat.add_mul] at this;omega
      rw [cell_of_row w _ _ C _ _ r5];simp [bB]
     ·have fP:=List.mem_of_getElem? hx;have iT:=hx;rw [h2,List.getElem?_take] at iT;split at iT
      ·rw [List.getElem?_drop] at iT;obtain⟨u,hu,gL⟩:=(r7 _ x iT).2 j c' hj;have e:off*h.bW+(i*h.bW+j)=(off+i)*h.bW+j:=by rw [Nat.add_mul];omega
       rw [e,hu];have hn:=h3 x fP;refine(gL.eE (φ':=Ph.no) ?_).mono (fun _ _=>rfl) hR (fun _ _ h=>h);cases x with
       |agg cs=>exact vw (cs:=cs) (by simpa [eE] using hn) j c' hj
       |_=>
        simp only [AV.cells] at hj;cases j with
        |zero=>simp at hj;subst hj;exact hn
        |succ j=>simp at hj
      ·cases iT
  ·obtain⟨h1,rfl,rfl⟩:=hw;exact .arr (by simp [Ph.via,h1,hb]) hl hc
 |@kg φ b hb=>
  cases y<;>simp only [bE] at hw
  ·exact .bot
  ·unfold yc at hw;cases hq:lk b m with
   |none=>simp [hq] at hw
   |some ok=>
    cases ok with
    |none=>simp [hq] at hw
    |some k=>
     simp only [hq] at hw;obtain⟨h1,h2,h3⟩:=hw;simp at h2;subst h2;exact .jG
  ·obtain⟨h1,rfl,rfl⟩:=hw;exact .kg (by simp [Ph.via,h1,hb])
 |cE hf hc _ _ rW rX=>
  cases y<;>simp only [bE] at hw
  ·exact .bot
  ·obtain⟨rfl,w1,w2⟩:=hw;obtain⟨g1,g2⟩:=l_ w1;obtain⟨g3,g4⟩:=l_ w2;refine .cE (g1▸hf) (g3▸hc) (fun i d v hd hv=>?_) (fun i d v hd hv=>?_)
   ·have bB:=(List.getElem?_eq_some_iff.1 hd).1;exact rW i _ v (List.getElem?_eq_getElem (by omega)) hv hs hm (g2 i _ d (List.getElem?_eq_getElem (by omega)) hd)
   ·have bB:=(List.getElem?_eq_some_iff.1 hd).1;exact rX i _ v (List.getElem?_eq_getElem (by omega)) hv hs hm (g4 i _ d (List.getElem?_eq_getElem (by omega)) hd)
 |iQ hd eJ hc he=>
  cases y<;>simp only [bE] at hw
  ·exact .bot
  ·obtain⟨h1,rfl,rfl⟩:=hw;exact .iQ (by simp [Ph.via,h1,hd]) (hR _ eJ) hc he
 |jd _ ih=>
  cases y<;>simp only [bE] at hw
  ·exact .bot
  ·subst hw;exact .jd (ih hs hm (by simp [bE]))
variable{lim:Nat}
def vx:List AV→List AV→Prop
 |[],[]=>True
 |c::cs,d::ds=>c.cells.length=d.cells.length∧vx cs ds
 |_,_=>False
theorem IQ:∀{cs ds:List AV},vx cs ds→∀(i:Nat) (c d:AV),cs[i]?=some c→ds[i]?=some d→c.cells.length=d.cells.length
 |[],[],_,i,c,d,h,_=>by simp at h
 |c::cs,d::ds,h,i,c',d',hc,hd=>by
  cases i with
  |zero=>simp at hc hd;subst hc;subst hd;exact h.1
  |succ i=>exact IQ h.2 i c' d' (by simpa using hc) (by simpa using hd)
 |[],_::_,h,_,_,_,_,_=>by simp [vx] at h
 |_::_,[],h,_,_,_,_,_=>by simp [vx] at h
def Fc (ρ:cC) (xs ys:List AV):Prop:=(xs=ys∧∀y∈ys,eE y=true)∨(gb [] ρ xs ys∧vx xs ys)
def et (ρ:cC) (m:Mem):Mem→Prop
 |[]=>True
 |(_,none)::_=>False
 |(b',some k)::l=>(match lk b' ρ with
   |some (some b)=>∃k0,lk b m=some (some k0)∧k0.ty=k.ty∧k0.bW=k.bW∧Fc ρ k0.xs k.xs
   |some none=>k.xs=[]
   |none=>False)∧et ρ m l
def pj (ρ:cC) (s:St):List (Nat×AV)→Prop
 |[]=>True
 |(t,av)::l=>bE [] ρ (s.get t) av∧pj ρ s l
def iC:cC→Bool
 |[]=>true
 |(_,some b)::l=>(l.all fun p=>match p.2 with|some b'=>!Nat.beq b b'|none=>true)&&iC l
 |(_,none)::l=>iC l
def pn (ρ:cC) (m:Mem):Bool:=iC ρ&&ρ.all fun p=>(lk p.1 m).isSome&&(Nat.blt p.1 1000||match p.2 with|some b=>Nat.beq b p.1|none=>false)
theorem fR {α:Type} {k:Nat} {v:α} {l:List (Nat×α)} (h:lk k l=some v):(k,v)∈l:=by
 induction l with
 |nil=>simp [lk] at h
 |cons p l ih=>
  obtain⟨j,u⟩:=p;rw [dP] at h;split at h
  ·subst_vars;cases h;simp
  ·simp [ih h]
theorem Fe:∀{ρ:cC},iC ρ=true→∀b1 b2 b,lk b1 ρ=some (some b)→lk b2 ρ=some (some b)→b1=b2
 |[],_,b1,b2,b,h1,_=>by simp [lk] at h1
 |(j,some q)::l,h,b1,b2,b,h1,h2=>by
  simp only [iC,Bool.and_eq_true] at h;rw [dP] at h1 h2
  have no:∀b1,lk b1 l=some (some q)→False:=by
   intro b1 hb;have:=List.all_eq_true.1 h.1 _ (fR hb);simp at this
  by_cases e1:b1=j
  ·by_cases e2:b2=j
   ·rw [e1,e2]
   ·rw [if_pos e1] at h1;cases h1;rw [if_neg e2] at h2;exact(no _ h2).elim
  ·rw [if_neg e1] at h1;by_cases e2:b2=j
   ·rw [if_pos e2] at h2;cases h2;exact(no _ h1).elim
   ·rw [if_neg e2] at h2;exact Fe h.2 b1 b2 b h1 h2
 |(j,none)::l,h,b1,b2,b,h1,h2=>by
  simp only [iC] at h;rw [dP] at h1 h2;by_cases e1:b1=j
  ·rw [if_pos e1] at h1;cases h1
  ·rw [if_neg e1] at h1;by_cases e2:b2=j
   ·rw [if_pos e2] at h2;cases h2
   ·rw [if_neg e2] at h2;exact Fe h b1 b2 b h1 h2
theorem yd {ρ:cC} {m:Mem}:∀{M:Mem},et ρ m M→∀b' k,(b',some k)∈M→(match lk b' ρ with
   |some (some b)=>∃k0,lk b m=some (some k0)∧k0.ty=k.ty∧k0.bW=k.bW∧Fc ρ k0.xs k.xs
   |some none=>k.xs=[]
   |none=>False)
 |[],_,b',k,h=>by cases h
 |(j,none)::l,hw,_,_,_=>by simp [et] at hw
 |(j,some q)::l,hw,b',k,h=>by
  simp only [et] at hw;rcases List.mem_cons.1 h with h|h
  ·cases h;exact hw.1
  ·exact yd hw.2 b' k h
theorem ZP {ρ:cC} {x y:AV} (h:bE [] ρ x y) (hl:x.cells.length=y.cells.length):∀(j:Nat) (c d:AV),x.cells[j]?=some c→y.cells[j]?=some d→bE [] ρ c d:=by
 intro j c d hc hd;by_cases hy:y=.bot
 ·subst hy;simp only [AV.cells] at hd;cases j with
  |zero=>simp at hd;subst hd;cases c<;>simp [bE]
  |succ j=>simp at hd
 ·have one:∀{x y:AV},x.cells=[x]→y.cells=[y]→bE [] ρ x y→∀(j:Nat) (c d:AV),x.cells[j]?=some c→y.cells[j]?=some d→bE [] ρ c d:=by
   intro x y h1 h2 h j c d hc hd;rw [h1] at hc;rw [h2] at hd;cases j with
   |zero=>simp at hc hd;subst hc;subst hd;exact h
   |succ j=>simp at hc
  cases x<;>cases y<;>first|exact absurd rfl hy|(simp [bE] at h;done)|exact one rfl rfl h j c d hc hd|skip
  rename_i cs ds;simp only [bE] at h;exact(l_ h).2 j c d hc hd
theorem oC {φ:Ph} {R:Nat→Prop} {mm:Mem} {w:World} (hs:gq w R φ mm) {ρ:cC} {M:Mem} (hi:iC ρ=true) (Bo:(ρ.all fun p=>(lk p.1 M).isSome)=true) (hM:et ρ mm M):
  gq w R (φ.via ρ) M∧(∀b x,φ.via ρ b=some x→∃y,lk b M=some y)∧(∀b k h,lk b M=some (some k)→φ.via ρ b=some (some h)→∃b0 k0,lk b ρ=some (some b0)∧lk b0 mm=some (some k0)∧φ b0=some (some h)):=by
 have IS:=Fe hi
 have src:∀b k h,lk b M=some (some k)→φ.via ρ b=some (some h)→∃b0 k0,lk b ρ=some (some b0)∧lk b0 mm=some (some k0)∧φ b0=some (some h)∧k0.ty=k.ty∧k0.bW=k.bW∧Fc ρ k0.xs k.xs:=by
  intro b k h hb hv;have:=yd hM b k (fR hb);unfold Ph.via at hv;cases hq:lk b ρ with
  |none=>simp [hq] at hv
  |some o=>
   cases o with
   |none=>simp [hq] at hv
   |some b0=>
    simp only [hq] at hv this;obtain⟨k0,h0,h1,h2,h3⟩:=this;exact⟨b0,k0,rfl,h0,hv,h1,h2,h3⟩
 refine⟨⟨?_,?_,?_,hs.gl⟩,?_,?_⟩
 ·intro b k hb;have hm:=yd hM b k (fR hb);cases hq:lk b ρ with
  |none=>simp [hq] at hm
  |some o=>
   cases o with
   |none=>
    simp only [hq] at hm;exact⟨none,by simp [Ph.via,hq],hm⟩
   |some b0=>
    simp only [hq] at hm;obtain⟨k0,h0,h1,h2,h3⟩:=hm;obtain⟨oh,ho,hr⟩:=hs.rel b0 k0 h0;refine⟨oh,by simp [Ph.via,hq,ho],?_⟩;cases oh with
    |none=>
     simp only [iB] at hr⊢;rw [hr] at h3;rcases h3 with⟨h3,_⟩|⟨h3,_⟩
     ·exact h3.symm
     ·have:=(l_ h3).1;exact List.eq_nil_of_length_eq_zero (by simpa using this.symm)
    |some x=>
     obtain⟨r1,r2,r3,r4,C,r5,r6,r7⟩:=hr;rcases h3 with⟨h3,h4⟩|⟨h3,h4⟩
     ·refine⟨by rw [←h2,r1],r2,by rw [←h3];exact r3,r4,C,by rw [←h1];exact r5,r6,fun i y hy=>?_⟩;have IT:=hy;rw [←h3] at hy;obtain⟨q1,q2⟩:=r7 i y hy;refine⟨q1,fun j c' hj=>?_⟩;obtain⟨u,hu,gL⟩:=q2 j c' hj;refine⟨u,hu,gL.eE ?_⟩;have hn:=h4 y (List.mem_of_getElem? IT);cases y with
      |agg cs=>exact vw (cs:=cs) (by simpa [eE] using hn) j c' hj
      |_=>
       simp only [AV.cells] at hj;cases j with
       |zero=>simp at hj;subst hj;exact hn
       |succ j=>simp at hj
     ·obtain⟨g1,g2⟩:=l_ h3;refine⟨by rw [←h2,r1],r2,by rw [←g1];exact r3,r4,C,by rw [←h1];exact r5,r6,fun i y hy=>?_⟩;have bB:=(List.getElem?_eq_some_iff.1 hy).1;have hx:k0.xs[i]?=some (k0.xs[i]'(by omega)):=List.getElem?_eq_getElem (by omega)
      obtain⟨q1,q2⟩:=r7 i _ hx;have hlen:=IQ h4 i _ y hx hy;refine⟨by rw [←hlen];exact q1,fun j d hj=>?_⟩;have eR:j<(k0.xs[i]'(by omega)).cells.length:=by rw [hlen];exact(List.getElem?_eq_some_iff.1 hj).1
      obtain⟨u,hu,gL⟩:=q2 j _ (List.getElem?_eq_getElem eR);refine⟨u,hu,?_⟩;exact mE hs (m:=[]) (fun _ h=>h) (fun b k h hb=>by simp [lk] at hb) gL (ZP (g2 i _ y hx hy) hlen j _ d (List.getElem?_eq_getElem eR) hj)
 ·intro b b' k k' h h' hb gH hv Bp heq;obtain⟨q,kq,e1,e2,e3,_⟩:=src b k h hb hv;obtain⟨q',IU,f1,f2,f3,_⟩:=src b' k' h' gH Bp;have:=hs.inj q q' kq IU h h' e2 f2 e3 f3 heq;subst this;exact IS b b' q e1 f1
 ·intro b k h hb hv;obtain⟨q,kq,e1,e2,e3,_⟩:=src b k h hb hv;exact hs.fA q kq h e2 e3
 ·intro b x hx;unfold Ph.via at hx;cases hq:lk b ρ with
  |none=>simp [hq] at hx
  |some o=>
   have:=List.all_eq_true.1 Bo _ (fR hq);exact Option.isSome_iff_exists.1 this
 ·intro b k h hb hv;obtain⟨q,kq,e1,e2,e3,_⟩:=src b k h hb hv;exact⟨q,kq,e1,e2,e3⟩
def tA (ρ:cC) (s h:St):Prop:=s.n=h.n∧pn ρ h.m=true∧pj ρ s h.t∧et ρ s.m h.m
theorem Ff {ρ:cC} {s:St}:∀{l:List (Nat×AV)},pj ρ s l→∀t av,(t,av)∈l→bE [] ρ (s.get t) av
 |[],_,t,av,h=>by cases h
 |(j,q)::l,hw,t,av,h=>by
  simp only [pj] at hw;rcases List.mem_cons.1 h with h|h
  ·cases h;exact hw.1
  ·exact Ff hw.2 t av h
theorem vy {ρ:cC} {M:Mem} (h:pn ρ M=true):iC ρ=true∧(ρ.all fun p=>(lk p.1 M).isSome)=true:=by
 unfold pn at h;simp only [Bool.and_eq_true] at h;refine⟨h.1,List.all_eq_true.2 fun p hp=>?_⟩;have:=List.all_eq_true.1 h.2 p hp;simp only [Bool.and_eq_true] at this;exact this.1
theorem IV {ρ:cC} {M:Mem} {φ xU:Ph} (h:pn ρ M=true) (hk:∀b,1000≤b→φ b=none∨φ b=xU b):∀b,1000≤b→φ.via ρ b=none∨φ.via ρ b=xU b:=by
 intro b hb;unfold pn at h;simp only [Bool.and_eq_true] at h;unfold Ph.via;cases hq:lk b ρ with
 |none=>exact .inl rfl
 |some o=>
  have:=List.all_eq_true.1 h.2 _ (fR hq);simp only [Bool.and_eq_true,Bool.or_eq_true] at this;have bB:¬(Nat.blt b 1000=true):=by simp;omega
  have:=this.2.resolve_left bB;cases o with
  |none=>simp at this
  |some q=>
   have:=Nat.eq_of_beq_eq_true this;subst this;exact hk _ hb
theorem cz.weaken {c:Ctx} {φ:Ph} {R:Nat→Prop} {s h:St} {a:Act} {w:World} (hs:cz c φ R s a w) {ρ:cC} (hw:tA ρ s h):cz c (φ.via ρ) R h a w:=by
 obtain⟨h1,h2,h3,h4⟩:=hw;obtain⟨i1,i2⟩:=vy h2;obtain⟨m1,m2,m3⟩:=oC hs.m i1 i2 h4;refine⟨hs.n.trans h1,fun t av ht=>?_,m1,m2,fun b k x hb hx=>?_,hs.R0,hs.Rn,hs.Rb,hs.ext,hs.d,IV h2 hs.eK⟩
 ·exact mE hs.m (m:=[]) (fun _ h=>h) (fun b k h hb=>by simp [lk] at hb) (hs.get t) (Ff h3 t av (fR ht))
 ·obtain⟨b0,k0,_,e1,e2⟩:=m3 b k x hb hx;exact hs.fresh b0 k0 x e1 e2
theorem dh.weaken {c:Ctx} {s h:St} {a:Act} {w:World} (hs:dh c s a w) {ρ:cC} (hw:tA ρ s h):dh c h a w:=by
 obtain⟨φ,R,q⟩:=hs;exact⟨_,_,q.weaken hw⟩
def Holds (P:Program) (f:Nat) (args:List AV) (M:Mem) (r:AV) (M':Mem):Prop:=
 ∀(w:World) (vs:Array Value) (φ:Ph) (R:Nat→Prop),args.length=vs.size→(∀(i:Nat) (c:AV) (v:Value),args[i]?=some c→vs[i]?=some v→Rel w R φ c v)→gq w R φ M→
  (∀b x,φ b=some x→∃y,lk b M=some y)→(∀n,R n→n<w.heap.size)→
  Calls P f vs w fun e w'=>∃v φ' R',e=.returned v∧Rel w' R' φ' r v∧gq w' R' φ' M'∧(∀b k h,lk b M'=some (some k)→φ' b=some (some h)→w.heap.size≤h.cA∨cG φ M h.cA)∧
   (∀b k k',lk b M=some (some k)→lk b M'=some (some k')→φ' b=φ b)∧(∀n,R n→R' n)∧(∀n,R' n→R n∨w.heap.size≤n∨cG φ M n)∧(∀n,R' n→n<w'.heap.size)∧Ext w w' (cG φ M)
def dO (P:Program) (lim:Nat) (code:Code) (Q:Exit→St→Prop) (s:St):Prop:=
 ∀(c:Ctx) (_:c.w0.heap.size=lim) (a:Act) (w:World),dh c s a w→code.wp P (fun e a' w'=>∃s',dh c s' a' w'∧Q e s') a w
section
variable{P:Program} {Q:Exit→St→Prop} {s:St}
theorem b_ (h:Q .normal s):dO P lim .skip Q s:=fun _ _ _ _ hs=>wp_skip ⟨s,hs,h⟩
theorem aK (h:Q .ret s):dO P lim .ret Q s:=fun _ _ _ _ hs=>wp_ret ⟨s,hs,h⟩
theorem bP {id:Nat} (h:Q (.exit id) s):dO P lim (.exit id) Q s:=fun _ _ _ _ hs=>wp_exit ⟨s,hs,h⟩
def iA (next:St→Prop) (Q:Exit→St→Prop):Exit→St→Prop
 |.normal,s=>next s
 |e,s=>Q e s
theorem ay {x y:Code} (h:dO P lim x (iA (dO P lim y Q) Q) s):dO P lim (.seq x y) Q s:=by
 intro c eu a w hs;refine wp_seq (wp_mono (h c eu a w hs) ?_);rintro e a' w' ⟨s',cu,hq⟩;cases e with
 |normal=>exact hq c eu a' w' cu
 |_=>exact⟨s',cu,hq⟩
theorem ao {x:Operand} {p q:Code} {b:Bool} (hx:s.ev x=.sc (.bool b)) (h1:b=true→dO P lim p Q s) (h2:b=false→dO P lim q Q s):dO P lim (.cond x p q) Q s:=by
 intro c eu a w hs;obtain⟨φ,R,cR⟩:=hs;have hr:=cR.ev x;rw [hx] at hr;exact wp_cond_split hr.gI (fun e=>h1 e c eu a w ⟨φ,R,cR⟩) (fun e=>h2 e c eu a w ⟨φ,R,cR⟩)
def nF (id:Nat) (Q:Exit→St→Prop):Exit→St→Prop
 |.exit pZ,s=>if pZ=id then Q .normal s else Q (.exit pZ) s
 |e,s=>Q e s
theorem a6 {id:Nat} {x:Code} (h:dO P lim x (nF id Q) s):dO P lim (.block id x) Q s:=by
 intro c eu a w hs;refine wp_block (wp_mono (h c eu a w hs) ?_);rintro e a' w' ⟨s',cu,hq⟩;cases e with
 |exit pZ=>
  simp only [Exit.inBlock];simp only [nF] at hq;split
  ·rename_i h;rw [if_pos h] at hq;exact⟨s',cu,hq⟩
  ·rename_i h;rw [if_neg h] at hq;exact⟨s',cu,hq⟩
 |_=>exact⟨s',cu,hq⟩
theorem ZQ {X:Type} {body:Code} (head:X→St) (μ:X→Nat) (x0:X) (h0:∃ρ,tA ρ s (head x0))
  (step:∀x,dO P lim body (iA (fun s'=>∃x' ρ,tA ρ s' (head x')∧μ x'<μ x) Q) (head x)):dO P lim (.loop body) Q s:=by
 intro c eu a w hs;obtain⟨sa,h0⟩:=h0;have jl:=hs.weaken h0;intro b k cs
 have key:∀n x a w,μ x=n→dh c (head x) a w→
   ∃e a' w',(∃s',dh c s' a' w'∧Q e s')∧Arrives P (lone (b.at a (.code body::.inLoop body::k)) cs w) b k cs e a' w':=by
  intro n
  induction n using Nat.strongRecOn with
  |_ n ih=>
   intro x a w hn hx;obtain⟨e,ye,yf,⟨s1,dc,hq⟩,tB⟩:=step x c eu a w hx b (.inLoop body::k) cs;cases e with
   |normal=>
    obtain⟨x',ρ,hw,bB⟩:=hq;obtain⟨ZR,ZS,ZT,ZU,ZV⟩:=ih (μ x') (hn▸bB) x' ye yf rfl (dc.weaken hw);exact⟨ZR,ZS,ZT,ZU,.of_steps (Steps.trans tB (.one step_inLoop)) ZV⟩
   |exit id=>exact⟨_,ye,yf,⟨s1,dc,hq⟩,.pass (x:=.inLoop body) rfl (fun _ _=>.inl (by simp)) tB⟩
   |goto l=>exact⟨_,ye,yf,⟨s1,dc,hq⟩,.pass (x:=.inLoop body) rfl (fun _ _=>.inl (by simp)) tB⟩
   |ret=>exact⟨_,ye,yf,⟨s1,dc,hq⟩,.pass (x:=.inLoop body) rfl (fun _ _=>.inl (by simp)) tB⟩
   |panic ch=>exact⟨_,ye,yf,⟨s1,dc,hq⟩,.pass (x:=.inLoop body) rfl (fun _ _=>.inl (by simp)) tB⟩
   |outgrown=>exact⟨_,ye,yf,⟨s1,dc,hq⟩,.pass (x:=.inLoop body) rfl (fun _ _=>.inl (by simp)) tB⟩
 obtain⟨e,a',w',hq,tB⟩:=key _ x0 a w rfl jl;exact⟨e,a',w',hq,.of_steps (.one step_loop) tB⟩
theorem ZW {body:Code} {h:St} (hw:∃ρ,tA ρ s h) (hh:dO P lim body Q h):dO P lim body Q s:=by
 obtain⟨ρ,hw⟩:=hw;exact fun c eu a w hs=>hh c eu a w (hs.weaken hw)
theorem gN.mono {ops:Array Oper} {K K':St→Prop} (hK:∀s,K s→K' s):∀(l:List Item) {s:St},gN P ops K l s→gN P ops K' l s
 |[],_,h=>hK _ h
 |_::l,_,h=>⟨h.1,gN.mono hK l h.2⟩
theorem ZX {id:Nat} {ops:Array Oper} {draw:Bool} {r:List (Option dN)} (bX:P.follows .mixedOrders=true) (hlen:ops.toList.length=r.length) (vo:draw=true→vl ops (items 0 ops.toList r)=true) (hr:gN P ops (Q .normal) (items 0 ops.toList r) s):dO P lim (.region id ops draw) Q s:=by
 intro c eu a w hs;refine ZL (K:=fun s'=>∃s0,je s0 s'∧Q .normal s0) (c:=c) ?_ ?_ hlen bX vo (gN.mono (fun s h=>⟨s,⟨rfl,fun _=>rfl,fun _=>rfl⟩,h⟩) _ hr) hs
 ·rintro s s' h ⟨s0,h0,hq⟩;exact⟨s0,⟨h0.n.trans h.n,fun t=>(h0.t t).trans (h.t t),fun b=>(h0.m b).trans (h.m b)⟩,hq⟩
 ·rintro s a w ⟨s0,h0,hq⟩ ⟨φ,R,cR⟩;exact⟨s0,⟨φ,R,h0.symm.Iz cR⟩,hq⟩
end
end Go.Ab
namespace Go.Ab
open Go.RowKit
variable{lim:Nat}
section
variable{P:Program}
def p6 (P:Program) (s:St):List ResultVar→List AV→Prop
 |[],[]=>True
 |.tmp t::l,v::vs=>s.get t=v∧p6 P s l vs
 |.cell a t::l,v::vs=>(∃D b i off k e,az P t=some D∧s.get a=.ref b i off∧lk b s.m=some (some k)∧k.xs[i]?=some e∧rd D e.cells off=some v)∧p6 P s l vs
 |_,_=>False
def vA:List AV→AV
 |[v]=>v
 |vs=>.bR vs
def yg (tmps:Array Value):ResultVar→Sem Value
 |.tmp t=>pure (tmps.getD t undef)
 |.cell q t=>do loadVar t (←asAddr (tmps.getD q undef))
theorem ZY (fn:Func) (tmps:Array Value):results fn tmps=(do
  let vs←fn.results.mapM (yg tmps)
  pure (if h:vs.size=1 then vs[0] else .tuple vs)):=by
 have:yg tmps=(fun
   |ResultVar.tmp t=>pure (tmps.getD t undef)
   |ResultVar.cell a t=>do loadVar t (←asAddr (tmps.getD a undef))):=by funext r;cases r<;>rfl
 rw [this];rfl
theorem yh {c:Ctx} {φ:Ph} {R:Nat→Prop} {s:St} {a:Act} {w:World} (hs:cz c φ R s a w) {fn:Func} {vs:List AV} (h:p6 P s fn.results.toList vs):∃v,(results fn a.tmps).run P w=.ok v w∧Rel w R φ (vA vs) v:=by
 have key:∀(rs:List ResultVar) (vs:List AV),p6 P s rs vs→∃us:List Value,(rs.mapM (yg a.tmps)).run P w=.ok us w∧us.length=vs.length∧∀(i:Nat) (x:AV) (u:Value),vs[i]?=some x→us[i]?=some u→Rel w R φ x u:=by
  intro rs
  induction rs with
  |nil=>
   intro vs h;cases vs with
   |nil=>exact⟨[],by simp,rfl,fun i x u hx=>by simp at hx⟩
   |cons v vs=>simp [p6] at h
  |cons r rs ih=>
   intro vs h;cases vs with
   |nil=>cases r<;>simp [p6] at h
   |cons v vs=>
    have fin:∀(u:Value),Rel w R φ v u→p6 P s rs vs→∃us:List Value,(rs.mapM (yg a.tmps)).run P w=.ok us w∧(u::us).length=(v::vs).length∧∀(i:Nat) (x:AV) (u':Value),(v::vs)[i]?=some x→(u::us)[i]?=some u'→Rel w R φ x u':=by
     intro u hu hr;obtain⟨us,h1,h2,h3⟩:=ih vs hr;refine⟨us,h1,by simp [h2],fun i x u' hx pY=>?_⟩;cases i with
     |zero=>simp at hx pY;subst hx;subst pY;exact hu
     |succ i=>exact h3 i x u' (by simpa using hx) (by simpa using pY)
    cases r with
    |tmp t=>
     simp only [p6] at h;obtain⟨us,h1,h2,h3⟩:=fin (a.tmps.getD t undef) (h.1▸hs.get t) h.2;exact⟨_,by simp only [List.mapM_cons,yg,Sem.run_bind,Sem.run_pure,Result.andThen_ok,h1],h2,h3⟩
    |cell q t=>
     simp only [p6] at h;obtain⟨⟨D,b,i,off,k,e,hD,hq,hb,he,hv⟩,Bq⟩:=h;have hr:=hs.get q;rw [hq] at hr;generalize IW:a.tmps.getD q undef=pv at hr;cases hr with
     |@ref _ _ _ _ hm fO=>
      obtain⟨oh,fF,ZZ⟩:=hs.m.rel b k hb;rw [fO] at fF;cases fF;obtain⟨_,_,_,_,C,hC,EP,iS⟩:=ZZ;obtain⟨hl,oi⟩:=iS i e he
      obtain⟨u,h2,h3⟩:=Ib (P:=P) (w:=w) (R:=R) (φ:=φ) (b:=hm.cA) (o:=i*hm.bW) (off:=off) hD hv (fun j=>C[i*hm.bW+j]?.getD undef) (fun j hj=>by
        obtain⟨u,hu,_⟩:=oi j (e.cells[j]) (by simp [hj]);rw [cell_of_row w _ _ C _ _ hC,hu];rfl) (fun j c' Ic=>by
        obtain⟨u,hu,gL⟩:=oi j c' Ic;rw [hu];exact gL)
      obtain⟨us,h4,h5,h6⟩:=fin u h3 Bq;exact⟨_,by simp only [List.mapM_cons,yg,Sem.run_bind,IW,asAddr,Sem.run_pure,Result.andThen_ok,h2,h4],h5,h6⟩
 obtain⟨us,h1,h2,h3⟩:=key _ vs h;rw [ZY,Array.mapM_eq_mapM_toList];refine⟨if h:us.toArray.size=1 then us.toArray[0] else .tuple us.toArray,by simp only [Sem.run_bind,Sem.run_map,Sem.run_pure,h1,Result.andThen_ok],?_⟩
 match vs,us,h2 with
 |[v],[u],_=>exact h3 0 v u rfl rfl
 |[],[],_=>exact .bR rfl (fun i c v hc=>by simp at hc)
 |v1::v2::vs,u1::u2::us,h2=>
  simp only [List.size_toArray,List.length_cons,vA];rw [dif_neg (by omega)];exact .bR (by simp at h2⊢;omega) (fun i c v hc hv=>h3 i c v hc (by simpa using hv))
def IX (ρ:cC) (M M':Mem):Bool:=M.all fun p=>match lk p.1 M' with
 |some _=>match lk p.1 ρ with
  |some (some b)=>Nat.beq b p.1
  |_=>false
 |none=>true
def mz (P:Program) (fn:Func) (M:Mem) (r:AV) (M':Mem) (s:St):Prop:=
 ∃vs ρ,p6 P s fn.results.toList vs∧pn ρ M'=true∧IX ρ M M'=true∧bE [] ρ (vA vs) r∧et ρ s.m M'
def oc (F:St→Prop):Exit→St→Prop
 |.normal,s=>F s
 |.ret,s=>F s
 |_,_=>False
def tC:Nat→List AV→List (Nat×AV)
 |_,[]=>[]
 |k,a::l=>(k,a)::tC (k+1) l
theorem yi:∀(l:List AV) (k t:Nat) (av:AV),lk t (tC k l)=some av→k≤t∧l[t -k]?=some av
 |[],k,t,av,h=>by simp [tC,lk] at h
 |a::l,k,t,av,h=>by
  simp only [tC,dP] at h;split at h
  ·subst_vars;cases h;simp
  ·obtain⟨h1,h2⟩:=yi l (k+1) t av h;refine⟨by omega,?_⟩;rw [show t -k=(t -(k+1))+1 by omega]
   simpa using h2
def tD (M:Mem):Bool:=M.all fun p=>Nat.ble 1000 p.1
theorem Z0 {f n:Nat} {fn:Func} {body:Code} {args:List AV} {M:Mem} {r:AV} {M':Mem} (hf:P.funcs[f]?=some fn) (hb:fn.body=some body) (hn:fn.ntmps=n) (hlen:Nat.ble args.length n=true) (hM:tD M=true)
  (h:∀lim,dO P lim body (oc (mz P fn M r M')) {n:=n,t:=tC 0 args,m:=M}):Holds P f args M r M':=by
 intro w vs φ R oD fq fP ma eJ;have hle:args.length≤n:=Nat.le_of_ble_eq_true hlen;refine calls_of_wp hf hb ?_
 have jl:cz ⟨w,cG φ M,R,φ,[]⟩ φ R {n:=n,t:=tC 0 args,m:=M} {tmps:=vs++Array.replicate (fn.ntmps -vs.size) undef,defers:=[]} w:=by
  refine⟨by simp [hn];omega,fun t av ht=>?_,fP,ma,fun b k x hb hx=>.inr ⟨b,k,x,hb,hx,rfl⟩,fun _ h=>h,fun _ h=>.inl h,eJ,Ext.refl _ _,rfl,fun b _=>.inr rfl⟩;obtain⟨_,h2⟩:=yi args 0 t av ht;simp only [Nat.sub_zero] at h2;have bB:t<vs.size:=by rw [←oD];exact(List.getElem?_eq_some_iff.1 h2).1
  have:=fq t av vs[t] h2 (by simp [bB]);simpa [Array.getD_eq_getD_getElem?,Array.getElem?_append_left bB,bB] using this
 refine wp_mono (h w.heap.size ⟨w,cG φ M,R,φ,[]⟩ rfl _ w ⟨φ,R,jl⟩) ?_;rintro e a' w' ⟨s',⟨fQ,R1,dc⟩,hq⟩
 have fin:mz P fn M r M' s'→a'.defers=[]∧∃v,(results fn a'.tmps).run P w'=.ok v w'∧∃v0 φ' R',Ending.returned v=.returned v0∧Rel w' R' φ' r v0∧gq w' R' φ' M'∧(∀b k h,lk b M'=some (some k)→φ' b=some (some h)→w.heap.size≤h.cA∨cG φ M h.cA)∧
   (∀b k k',lk b M=some (some k)→lk b M'=some (some k')→φ' b=φ b)∧(∀n,R n→R' n)∧(∀n,R' n→R n∨w.heap.size≤n∨cG φ M n)∧(∀n,R' n→n<w'.heap.size)∧Ext w w' (cG φ M):=by
  rintro⟨gr,ρ,f1,f2,f3,f4,f5⟩;obtain⟨v,g1,g2⟩:=yh dc f1;obtain⟨i1,i2⟩:=vy f2;obtain⟨m1,m2,m3⟩:=oC dc.m i1 i2 f5;refine⟨dc.d,v,g1,v,fQ.via ρ,R1,rfl,mE dc.m (m:=[]) (fun _ h=>h) (fun b k h hb=>by simp [lk] at hb) g2 f4,m1,fun b k x hb hx=>?_,fun b k k' h1 h2=>?_,dc.R0,dc.Rn,dc.Rb,dc.ext⟩
  ·obtain⟨b0,k0,_,e1,e2⟩:=m3 b k x hb hx;exact dc.fresh b0 k0 x e1 e2
  ·have hk:=List.all_eq_true.1 f3 _ (fR h1);simp only [h2] at hk;cases hq:lk b ρ with
   |none=>simp [hq] at hk
   |some o=>
    cases o with
    |none=>simp [hq] at hk
    |some q=>
     simp only [hq] at hk;have Br:=Nat.eq_of_beq_eq_true hk;rw [Br] at hq;have ou:1000≤b:=Nat.le_of_ble_eq_true (by simpa using List.all_eq_true.1 hM _ (fR h1));have Bs:=yd f5 b k' (fR h2);simp only [hq] at Bs;obtain⟨k0,pq,_⟩:=Bs;obtain⟨oh,ho,_⟩:=dc.m.rel b k0 pq
     have:fQ b=φ b:=by
      rcases dc.eK b ou with h|h
      ·rw [h] at ho;cases ho
      ·exact h
     simp [Ph.via,hq,this]
 cases e with
 |normal=>exact fin hq
 |ret=>exact fin hq
 |exit _=>exact hq.elim
 |goto _=>exact hq.elim
 |panic _=>exact hq.elim
 |outgrown=>exact hq.elim
end
end Go.Ab
namespace Go.Ab
open Go.RowKit
section
variable{P:Program} {o:Oper} {s:St}
def pw (fo:Operand) (xs:Array Operand) (ga:Array TypeId):Op:=.call {callee:=.value fo,args:=xs,argTypes:=ga}
def dQ:cC→List Nat
 |[]=>[]
 |(_,some b)::l=>b::dQ l
 |(_,none)::l=>dQ l
theorem Fg {ρ:cC} {b' b:Nat} (h:lk b' ρ=some (some b)):b∈dQ ρ:=by
 induction ρ with
 |nil=>simp [lk] at h
 |cons p l ih=>
  obtain⟨j,o⟩:=p;rw [dP] at h;split at h
  ·cases h;simp [dQ]
  ·cases o with
   |none=>exact ih h
   |some q=>simp [dQ,ih h]
def lF:List Nat→Mem
 |[]=>[]
 |b::l=>(b,none)::lF l
theorem N0 (l:List Nat) (b:Nat):lk b (lF l)=if b∈l then some none else none:=by
 induction l with
 |nil=>simp [lF,lk]
 |cons x l ih=>
  simp only [lF,dP,ih,List.mem_cons];by_cases e:b=x
  ·simp [e]
  ·simp [e]
def vB (ρ:cC) (M:Mem) (σ:cC) (W:Mem):Bool:=W.all fun p=>match(dQ ρ).contains p.1 with
 |false=>true
 |true=>match lk p.1 σ with
  |some (some b')=>match lk b' ρ with
   |some (some t)=>Nat.beq t p.1&&(match lk b' M with|some (some _)=>true|_=>false)
   |_=>false
  |_=>false
def kG (ρ:cC):Mem→List Nat
 |[]=>[]
 |(t,_)::l=>match(dQ ρ).contains t with
  |true=>kG ρ l
  |false=>t::kG ρ l
theorem N4 {ρ:cC}:∀{W:Mem} {t:Nat} {x:Option eI},(t,x)∈W→t∉dQ ρ→t∈kG ρ W
 |(j,y)::l,t,x,h,ht=>by
  simp only [kG];rcases List.mem_cons.1 h with h|h
  ·cases h;have hc:(dQ ρ).contains j=false:=by simpa using ht
   rw [hc];simp
  ·have:=N4 h ht;split
   ·exact this
   ·exact List.mem_cons_of_mem _ this
def rb:Mem→Prop
 |[]=>True
 |(_,some k)::l=>(∀x∈k.xs,hZ x=true)∧rb l
 |(_,none)::l=>rb l
theorem IY:∀{W:Mem},rb W→∀t k,(t,some k)∈W→∀x∈k.xs,hZ x=true
 |(j,some q)::l,h,t,k,hm=>by
  simp only [rb] at h;rcases List.mem_cons.1 hm with hm|hm
  ·cases hm;exact h.1
  ·exact IY h.2 t k hm
 |(j,none)::l,h,t,k,hm=>by
  simp only [rb] at h;rcases List.mem_cons.1 hm with hm|hm
  ·cases hm
  ·exact IY h t k hm
theorem Z1 {x:AV} (h:hZ x=true):∀(j:Nat) (c:AV),x.cells[j]?=some c→hZ c=true:=by
 intro j c hj;cases x with
 |agg cs=>exact Bn (cs:=cs) (by simpa [hZ] using h) j c hj
 |_=>
  simp only [AV.cells] at hj;cases j with
  |zero=>simp at hj;subst hj;exact h
  |succ j=>simp at hj
def mF (ρ:cC) (m:Mem):Mem→Prop
 |[]=>True
 |(b,some k)::l=>lk b m=some (some k)∧b∉dQ ρ∧mF ρ m l
 |(_,none)::_=>False
theorem yj {ρ:cC} {m:Mem}:∀{L:Mem},mF ρ m L→∀b x,(b,x)∈L→∃k,x=some k∧lk b m=some (some k)∧b∉dQ ρ
 |(j,some q)::l,h,b,x,hm=>by
  simp only [mF] at h;rcases List.mem_cons.1 hm with hm|hm
  ·cases hm;exact⟨q,rfl,h.1,h.2.1⟩
  ·exact yj h.2.2 b x hm
 |(j,none)::l,h,_,_,_=>by simp [mF] at h
structure Fh (w:World) (φ:Ph) (R:Nat→Prop) (M:Mem) (r:AV) (M':Mem) (w':World) (u:Value) (φ':Ph) (R':Nat→Prop):Prop where
 val:Rel w' R' φ' r u
 mem:gq w' R' φ' M'
 fresh:∀b k h,lk b M'=some (some k)→φ' b=some (some h)→w.heap.size≤h.cA∨cG φ M h.cA
 eK:∀b k k',lk b M=some (some k)→lk b M'=some (some k')→φ' b=φ b
 R0:∀n,R n→R' n
 Rn:∀n,R' n→R n∨w.heap.size≤n∨cG φ M n
 Rb:∀n,R' n→n<w'.heap.size
 ext:Ext w w' (cG φ M)
theorem Fi {s':St} {gr args:List AV} {M M' L W:Mem} {ρ σ:cC} {r v:AV} {c:Ctx} {φ:Ph} {R:Nat→Prop} {a:Act} {w:World} {vs:Array Value} (hL:mF ρ s.m L) (fq:gb L ρ gr args) (hi:iC ρ=true) (hk:(ρ.all fun p=>(lk p.1 M).isSome)=true) (hM:et ρ s.m M)
  (nG:iC σ=true) (p7:(σ.all fun p=>(lk p.1 W).isSome)=true) (hW:et σ M' W) (hv:bE [] σ r v) (oB:vB ρ M σ W=true) (mG:L≠[]→hZ v=true∧rb W)
  (fE:∀b∈dQ ρ++L.map (·.1),lk b s'.m=lk b s.m) (ji:∀b∈kG ρ W,Fr s' b) (cR:cz c φ R s' a w) (vC:gr.length=vs.size) (vD:∀(i:Nat) (x:AV) (u:Value),gr[i]?=some x→vs[i]?=some u→Rel w R φ x u):
  (args.length=vs.size∧(∀(i:Nat) (c:AV) (v:Value),args[i]?=some c→vs[i]?=some v→Rel w (fun n=>R n∨cG φ L n) (φ.via ρ) c v)∧gq w (fun n=>R n∨cG φ L n) (φ.via ρ) M∧(∀b x,φ.via ρ b=some x→∃y,lk b M=some y)∧(∀n,(R n∨cG φ L n)→n<w.heap.size))∧
  ∀(dst:Option Nat) w' u φ' R',Fh w (φ.via ρ) (fun n=>R n∨cG φ L n) M r M' w' u φ' R'→dh c (s'.app dst ⟨v,W++lF (dQ ρ),dQ ρ++L.map (·.1),kG ρ W⟩) (a.put dst u) w':=by
 have yk:∀b∈dQ ρ,lk b s'.m=lk b s.m:=fun b hb=>fE b (by simp [hb])
 have yl:∀b x,(b,x)∈L→∃k,x=some k∧lk b s'.m=some (some k)∧b∉dQ ρ:=fun b x hb=>by
  obtain⟨k,h1,h2,h3⟩:=yj hL b x hb;exact⟨k,h1,by rw [fE b (by simp;exact .inr ⟨x,hb⟩)];exact h2,h3⟩
 have Z2:et ρ s'.m M:=by
  have:∀{M:Mem},et ρ s.m M→et ρ s'.m M:=by
   intro M
   induction M with
   |nil=>intro h;exact h
   |cons p l ih=>
    obtain⟨b',ok⟩:=p;cases ok with
    |none=>intro h;simp [et] at h
    |some k=>
     intro h;simp only [et] at h⊢;refine⟨?_,ih h.2⟩;cases hq:lk b' ρ with
     |none=>simp [hq] at h
     |some oo=>
      cases oo with
      |none=>simpa [hq] using h.1
      |some b=>
       have h1:=h.1;simp only [hq] at h1⊢;rw [yk b (Fg hq)];exact h1
  exact this hM
 obtain⟨m1,m2,m3⟩:=oC cR.m hi hk Z2;obtain⟨Rc,Bt⟩:∃Rc:Nat→Prop,Rc=fun n=>R n∨cG φ L n:=⟨_,rfl⟩
 rw [←Bt];have re:∀n,Rc n↔(R n∨cG φ L n):=fun n=>by rw [Bt]
 have Fj:∀b k,lk b L=some (some k)→lk b s'.m=some (some k)∧b∉dQ ρ:=fun b k hb=>by
  obtain⟨k',h1,h2,h3⟩:=yl b _ (fR hb);cases h1;exact⟨h2,h3⟩
 have IZ:∀n,cG (φ.via ρ) M n→∃b k x,b∈dQ ρ∧lk b s'.m=some (some k)∧φ b=some (some x)∧x.cA=n:=by
  rintro n ⟨b',k',x,h1,h2,h3⟩;obtain⟨b,k,e1,e2,e3⟩:=m3 b' k' x h1 h2;exact⟨b,k,x,Fg e1,e2,e3,h3⟩
 have Z3:∀n,Rc n→n<w.heap.size:=by
  intro n hh;rcases(re n).1 hh with(h|⟨b,k,x,h1,h2,rfl⟩)
  ·exact cR.Rb n h
  ·exact cR.lt (Fj b k h1).1 h2
 have fP:gq w Rc (φ.via ρ) M:=by
  refine⟨fun b k hb=>?_,m1.inj,fun b k x hb hx=>?_,m1.gl.mono (fun _ _=>rfl) (fun _ h=>(re _).2 (.inl h))⟩
  ·obtain⟨oh,h1,h2⟩:=m1.rel b k hb;refine⟨oh,h1,?_⟩;cases oh with
   |none=>exact h2
   |some x=>
    obtain⟨r1,r2,r3,r4,C,r5,r6,r7⟩:=h2;refine⟨r1,r2,r3,r4,C,r5,r6,fun i y hy=>⟨(r7 i y hy).1,fun j c' hj=>?_⟩⟩;obtain⟨u,hu,hr⟩:=(r7 i y hy).2 j c' hj;exact⟨u,hu,hr.mono (fun _ _=>rfl) (fun _ h=>(re _).2 (.inl h)) (fun _ _ h=>h)⟩
  ·intro hh;rcases(re _).1 hh with(h|⟨b1,k1,x1,h1,h2,h3⟩)
   ·exact m1.fA b k x hb hx h
   ·obtain⟨b0,k0,e1,e2,e3⟩:=m3 b k x hb hx;have:=cR.m.inj b1 b0 k1 k0 x1 x (Fj b1 k1 h1).1 e2 h2 e3 h3;subst this;exact(Fj b1 k1 h1).2 (Fg e1)
 obtain⟨al,Z4⟩:=l_ fq;refine⟨⟨by rw [←al,vC],fun i d u hd hu=>?_,fP,m2,fun n h=>Z3 n ((re n).2 h)⟩,?_⟩
 ·have bB:=(List.getElem?_eq_some_iff.1 hd).1;have hx:gr[i]?=some (gr[i]'(by omega)):=List.getElem?_eq_getElem (by omega)
  exact mE cR.m (m:=L) (fun _ h=>(re _).2 (.inl h)) (fun b k x hb hx=>⟨(Fj b k hb).1,(re _).2 (.inr ⟨b,k,x,hb,hx,rfl⟩)⟩) (vD i _ u hx hu) (Z4 i _ d hx hd)
 ·rintro dst w' u φ' R' ⟨gL,N5,Z5,Z6,N6,Z7,Z8,Fk⟩;obtain⟨n1,n2,n3⟩:=oC N5 nG p7 hW
  have Fl:∀b k x,lk b s'.m=some (some k)→φ b=some (some x)→b∉dQ ρ→¬cG (φ.via ρ) M x.cA:=by
   intro b k x hb hx ym hp;obtain⟨b1,k1,x1,h1,h2,h3,h4⟩:=IZ _ hp;have:=cR.m.inj b1 b k1 k x1 x h2 hb h3 hx h4;subst this;exact ym h1
  have oE:∀n,R n→w'.heap[n]?=w.heap[n]?:=by
   intro n tE;refine Fk.block n (cR.Rb n tE) fun hp=>?_
   obtain⟨b1,k1,x1,h1,h2,h3,h4⟩:=IZ _ hp;exact cR.m.fA b1 k1 x1 h2 h3 (h4▸tE)
  let jm:Ph:=fun b=>match φ'.via σ b with
   |some x=>some x
   |none=>φ b
  have Bu:∀t x,φ'.via σ t=some x→∃y,lk t W=some y:=n2
  have N7:∀t y,lk t W=some y→t∉dQ ρ→Fr s' t:=fun t y hy ht=>ji t (N4 (fR hy) ht)
  have Z9:∀t y,lk t W=some y→t∈dQ ρ→∃b' k',lk t σ=some (some b')∧lk b' ρ=some (some t)∧lk b' M=some (some k'):=by
   intro t y hy ht;have:=List.all_eq_true.1 oB _ (fR hy);have hc:(dQ ρ).contains t=true:=by simpa using ht
   simp only [hc] at this;cases h1:lk t σ with
   |none=>simp [h1] at this
   |some o1=>
    cases o1 with
    |none=>simp [h1] at this
    |some b'=>
     simp only [h1] at this;cases h2:lk b' ρ with
     |none=>simp [h2] at this
     |some o2=>
      cases o2 with
      |none=>simp [h2] at this
      |some t'=>
       simp only [h2,Bool.and_eq_true] at this;have rf:=Nat.eq_of_beq_eq_true this.1;subst rf;cases h3:lk b' M with
       |none=>simp [h3] at this
       |some o3=>
        cases o3 with
        |none=>simp [h3] at this
        |some k'=>exact⟨b',k',rfl,h2,h3⟩
  have N8:∀t x,t∈dQ ρ→φ'.via σ t=some x→φ t=some x:=by
   intro t x ht hx;obtain⟨y,hy⟩:=Bu t x hx;obtain⟨b',k',h1,h2,h3⟩:=Z9 t y hy ht;simp only [Ph.via,h1] at hx
   have Z_:∃kk,lk b' M'=some (some kk):=by
    cases y with
    |none=>
     exfalso
     have:∀{W:Mem},et σ M' W→lk t W≠some none:=by
      intro W
      induction W with
      |nil=>intro _ h;simp [lk] at h
      |cons p l ih=>
       obtain⟨j,q⟩:=p;cases q with
       |none=>intro h;simp [et] at h
       |some q=>
        intro h hh;rw [dP] at hh;split at hh
        ·cases hh
        ·simp only [et] at h;exact ih h.2 hh
     exact this hW hy
    |some kk=>
     have:=yd hW t kk (fR hy);simp only [h1] at this;obtain⟨k0,pq,_⟩:=this;exact⟨k0,pq⟩
   obtain⟨kk,tF⟩:=Z_;rw [Z6 b' k' kk h3 tF] at hx;simpa [Ph.via,h2] using hx
  have Z':∀t,Fr s' t→φ t=none:=by
   intro t ht;cases hq:φ t with
   |none=>rfl
   |some y=>obtain⟨z,hz⟩:=cR.fZ t y hq;rw [ht.1] at hz;cases hz
  have I0:∀b x,φ b=some x→jm b=some x:=by
   intro b x hx;show(match φ'.via σ b with|some x=>some x|none=>φ b)=some x
   cases hq:φ'.via σ b with
   |none=>exact hx
   |some y=>
    obtain⟨z,hz⟩:=Bu b y hq;by_cases hb:b∈dQ ρ
    ·rw [N8 b y hb hq] at hx;exact hx
    ·rw [Z' b (N7 b z hz hb)] at hx;cases hx
  have Fm:∀b x,φ'.via σ b=some x→jm b=some x:=by
   intro b x hx;show(match φ'.via σ b with|some x=>some x|none=>φ b)=some x
   rw [hx]
  have apL:∀b x y,lk b W=some y→jm b=some x→φ'.via σ b=some x∨(φ'.via σ b=none∧φ b=some x):=by
   intro b x y hy hx;have iT:(match φ'.via σ b with|some x=>some x|none=>φ b)=some x:=hx
   cases hq:φ'.via σ b with
   |none=>rw [hq] at iT;exact .inr ⟨rfl,iT⟩
   |some z=>rw [hq] at iT;exact .inl iT
  have hWv:∀b k,lk b W=some (some k)→∃oh,φ'.via σ b=some oh:=fun b k hb=>by
   obtain⟨oh,h1,_⟩:=n1.rel b k hb;exact⟨oh,h1⟩
  have split:∀b k,lk b ((W++lF (dQ ρ))++s'.m)=some (some k)→lk b W=some (some k)∨(lk b W=none∧b∉dQ ρ∧lk b s'.m=some (some k)):=by
   intro b k hb;rw [qZ,qZ,N0] at hb;cases h1:lk b W with
   |some y=>rw [h1] at hb;simp at hb;subst hb;exact .inl rfl
   |none=>
    rw [h1] at hb;by_cases h2:b∈dQ ρ
    ·simp [h2] at hb
    ·simp [h2] at hb;exact .inr ⟨rfl,h2,hb⟩
  have I1:∀b k x,lk b W=some (some k)→φ'.via σ b=some (some x)→w.heap.size≤x.cA∨cG (φ.via ρ) M x.cA:=by
   intro b k x hb hx;obtain⟨b0,k0,e1,e2,e3⟩:=n3 b k x hb hx;exact Z5 b0 k0 x e2 e3
  have yn:∀b k x,lk b W=some (some k)→jm b=some (some x)→φ'.via σ b=some (some x):=by
   intro b k x hb hx;obtain⟨oh,ow⟩:=hWv b k hb;have:=Fm b oh ow;rw [this] at hx;rw [ow];exact hx
  have yo:∀b x,lk b W=none→jm b=some x→φ b=some x:=by
   intro b x hb hx;have iT:(match φ'.via σ b with|some x=>some x|none=>φ b)=some x:=hx
   cases hq:φ'.via σ b with
   |none=>rw [hq] at iT;exact iT
   |some z=>obtain⟨y,hy⟩:=Bu b z hq;rw [hb] at hy;cases hy
  have I2:∀n,cG (φ.via ρ) M n→c.w0.heap.size≤n∨c.G n:=by
   intro n hp;obtain⟨b1,k1,x1,h1,h2,h3,h4⟩:=IZ _ hp;rw [←h4];exact cR.fresh b1 k1 x1 h2 h3
  have N9:c.w0.heap.size≤w.heap.size:=cR.ext.size
  have main:∀R2:Nat→Prop,(∀n,R n→R2 n)→(∀n,R2 n→R n∨(R' n∧(w.heap.size≤n∨cG (φ.via ρ) M n)))→(∀n,R2 n→n<w'.heap.size)→
    (∀b k,lk b W=some (some k)→∀x∈k.xs,∀(j:Nat) (d:AV) (u:Value),x.cells[j]?=some d→Rel w' R' (φ'.via σ) d u→Rel w' R2 (φ'.via σ) d u)→Rel w' R2 (φ'.via σ) v u→
    dh c (s'.app dst ⟨v,W++lF (dQ ρ),dQ ρ++L.map (·.1),kG ρ W⟩) (a.put dst u) w':=by
   intro R2 tG I3 aab aac Fo;refine⟨jm,R2,?_⟩;refine cz.app (s:=s') (m:=(W++lF (dQ ρ))++s'.m) ?_ dst (Fo.mono (fun _ _=>rfl) (fun _ h=>h) Fm);have hold:∀b k x,lk b s'.m=some (some k)→φ b=some (some x)→b∉dQ ρ→w'.heap[x.cA]?=w.heap[x.cA]?:=fun b k x hb hx ym=>Fk.block _ (cR.lt hb hx) (Fl b k x hb hx ym)
   refine⟨cR.n,fun t av ht=>(cR.t t av ht).mono oE tG I0,⟨?_,?_,?_,cR.m.gl.mono oE tG⟩,?_,?_,fun n tE=>tG n (cR.R0 n tE),?_,aab,?_,cR.d,?_⟩
   ·intro b k hb;rcases split b k hb with hb|⟨rh,mH,tH⟩
    ·obtain⟨oh,h1,h2⟩:=n1.rel b k hb;refine⟨oh,Fm b oh h1,?_⟩;cases oh with
     |none=>exact h2
     |some x=>
      obtain⟨r1,r2,r3,r4,C,r5,r6,r7⟩:=h2;refine⟨r1,r2,r3,r4,C,r5,r6,fun i y hy=>⟨(r7 i y hy).1,fun j d hj=>?_⟩⟩;obtain⟨q,hq,hr⟩:=(r7 i y hy).2 j d hj;exact⟨q,hq,(aac b k hb y (List.mem_of_getElem? hy) j d q hj hr).mono (fun _ _=>rfl) (fun _ h=>h) Fm⟩
    ·obtain⟨oh,h1,h2⟩:=cR.m.rel b k tH;refine⟨oh,I0 b oh h1,?_⟩;cases oh with
     |none=>exact h2
     |some x=>
      obtain⟨r1,r2,r3,r4,C,r5,r6,r7⟩:=h2;refine⟨r1,r2,r3,r4,C,by rw [hold b k x tH h1 mH];exact r5,r6,fun i y hy=>⟨(r7 i y hy).1,fun j d hj=>?_⟩⟩;obtain⟨q,hq,hr⟩:=(r7 i y hy).2 j d hj;exact⟨q,hq,hr.mono oE tG I0⟩
   ·intro b1 b2 k1 k2 y1 y2 h1 h2 e1 e2 heq;rcases split b1 k1 h1 with h1|⟨N_,Bv,I4⟩<;>rcases split b2 k2 h2 with h2|⟨Oa,h22,I5⟩
    ·exact n1.inj b1 b2 k1 k2 y1 y2 h1 h2 (yn b1 k1 y1 h1 e1) (yn b2 k2 y2 h2 e2) heq
    ·exfalso;have f2:=yo b2 _ Oa e2;rcases I1 b1 k1 y1 h1 (yn b1 k1 y1 h1 e1) with h|h
     ·have:=cR.lt I5 f2;omega
     ·rw [heq] at h;exact Fl b2 k2 y2 I5 f2 h22 h
    ·exfalso;have f1:=yo b1 _ N_ e1;rcases I1 b2 k2 y2 h2 (yn b2 k2 y2 h2 e2) with h|h
     ·have:=cR.lt I4 f1;omega
     ·rw [←heq] at h;exact Fl b1 k1 y1 I4 f1 Bv h
    ·exact cR.m.inj b1 b2 k1 k2 y1 y2 I4 I5 (yo b1 _ N_ e1) (yo b2 _ Oa e2) heq
   ·intro b k x hb hx Ob;rcases split b k hb with hb|⟨rh,mH,tH⟩
    ·have iT:=yn b k x hb hx;have Oc:=n1.fA b k x hb iT;rcases I3 _ Ob with h|⟨h,_⟩
     ·exact Oc (N6 _ ((re _).2 (.inl h)))
     ·exact Oc h
    ·have iT:=yo b _ rh hx;rcases I3 _ Ob with h|⟨_,h|h⟩
     ·exact cR.m.fA b k x tH iT h
     ·have:=cR.lt tH iT;omega
     ·exact Fl b k x tH iT mH h
   ·intro b x hx;have iT:(match φ'.via σ b with|some x=>some x|none=>φ b)=some x:=hx
    rw [qZ,qZ];cases hq:φ'.via σ b with
    |some z=>obtain⟨y,hy⟩:=Bu b z hq;exact⟨y,by rw [hy];simp⟩
    |none=>
     rw [hq] at iT;obtain⟨y,hy⟩:=cR.fZ b x iT;cases h1:(lk b W).or (lk b (lF (dQ ρ))) with
     |none=>exact⟨y,by rw [hy];rfl⟩
     |some z=>exact⟨z,rfl⟩
   ·intro b k x hb hx;rcases split b k hb with hb|⟨rh,mH,tH⟩
    ·rcases I1 b k x hb (yn b k x hb hx) with h|h
     ·exact .inl (Nat.le_trans N9 h)
     ·exact I2 _ h
    ·exact cR.fresh b k x tH (yo b _ rh hx)
   ·intro n tE;rcases I3 n tE with h|⟨_,h|h⟩
    ·exact cR.Rn n h
    ·exact .inr (.inl (Nat.le_trans N9 h))
    ·exact .inr (I2 n h)
   ·exact cR.ext.trans Fk (fun i hi hp=>(I2 i hp).resolve_left (by omega))
   ·intro b hb;have Fp:jm b=(match φ'.via σ b with|some x=>some x|none=>φ b):=rfl
    cases hq:φ'.via σ b with
    |none=>rw [Fp,hq];exact cR.eK b hb
    |some z=>
     obtain⟨y,hy⟩:=Bu b z hq;by_cases ym:b∈dQ ρ
     ·have:=N8 b z ym hq;have h2:jm b=φ b:=by rw [Fp,hq];exact this.symm
      rw [h2];exact cR.eK b hb
     ·have:=(N7 b y hy ym).2;omega
  have Fo:=mE (R':=R') N5 (m:=[]) (fun _ h=>h) (fun b k h hb=>by simp [lk] at hb) gL hv;by_cases Od:L=[]
  ·refine main R' (fun n h=>N6 n ((re _).2 (.inl h))) (fun n h=>?_) Z8 (fun _ _ _ _ _ _ _ _ _ h=>h) Fo;rcases(Z7 n h).imp_left (re n).1 with(h1|⟨b,k,x,h1,_⟩)|h1|h1
   ·exact .inl h1
   ·rw [Od] at h1;simp [lk] at h1
   ·exact .inr ⟨h,.inl h1⟩
   ·exact .inr ⟨h,.inr h1⟩
  ·obtain⟨s1,s2⟩:=mG Od;refine main R (fun _ h=>h) (fun n h=>.inl h) (fun n h=>Nat.lt_of_lt_of_le (cR.Rb n h) Fk.size) (fun b k hb x hx j d u' hj hr=>?_) (Fo.hZ s1);exact hr.hZ (Z1 (IY s2 b k (fR hb) x hx) j d hj)
theorem Fq {f:Nat} {fn:Func} {fo:Operand} {xs:Array Operand} {ga:Array TypeId} {fs cs gr args:List AV} {M M' L W:Mem} {ρ σ:cC} {r v:AV} (ho:o.op=pw fo xs ga) (yp:P.funcs[f]?=some fn) (aae:(fn.name== "runtime.NumGoroutine")=false) (I6:fn.body.isNone=false)
  (mI:s.ev fo=.cE f fs cs) (px:fs++xs.toList.map s.ev++cs=gr) (H:Holds P f args M r M') (hL:mF ρ s.m L) (fq:gb L ρ gr args) (hi:iC ρ=true) (hk:(ρ.all fun p=>(lk p.1 M).isSome)=true) (hM:et ρ s.m M)
  (nG:iC σ=true) (p7:(σ.all fun p=>(lk p.1 W).isSome)=true) (hW:et σ M' W) (hv:bE [] σ r v) (oB:vB ρ M σ W=true) (mG:L≠[]→hZ v=true∧rb W):
  cM P o s ⟨v,W++lF (dQ ρ),dQ ρ++L.map (·.1),kG ρ W⟩:=by
 intro s' hn bS fE ji c a w next Q hs tI
 obtain⟨φ,R,cR⟩:=hs;have I7:=cR.ev fo;rw [bS fo (by simp [ho,pw,Op.operands,Call.operands]),mI] at I7;generalize hq:a.eval fo=q at I7;cases I7 with
 |@cE _ _ _ _ fv cv mb jS Bw vE=>
  have fG:(execOp a.eval o).run P w=.ok (.enter f (fv++xs.map a.eval++cv)) w:=by
   have I8:¬(fn.name= "runtime.NumGoroutine"):=by simpa using aae
   have I9:¬(fn.body=none):=by intro h;simp [h] at I6
   simp [execOp,ho,pw,resolve,hq,Deferred.ofValue,invoke,callFunc,yp,I8,I9]
  unfold Oper.wp;rw [fG];simp only [Oper.upon]
  have vC:gr.length=(fv++xs.map a.eval++cv).size:=by
   rw [←px];simp [mb,jS]
  have vD:∀(i:Nat) (x:AV) (u:Value),gr[i]?=some x→(fv++xs.map a.eval++cv)[i]?=some u→Rel w R φ x u:=by
   intro i x u hx hu;rw [←px] at hx;rw [List.append_assoc] at hx;rw [Array.append_assoc] at hu;by_cases h1:i<fs.length
   ·rw [List.getElem?_append_left h1] at hx;rw [Array.getElem?_append_left (by omega)] at hu;exact Bw i x u hx hu
   ·rw [List.getElem?_append_right (by omega)] at hx;rw [Array.getElem?_append_right (by omega),←mb] at hu;by_cases h2:i -fs.length<xs.size
    ·rw [List.getElem?_append_left (by simpa using h2),List.getElem?_map,Array.getElem?_toList] at hx;rw [Array.getElem?_append_left (by simpa using h2),Array.getElem?_map] at hu;cases hy:xs[i -fs.length]?with
     |none=>simp [hy] at hx
     |some y=>
      simp [hy] at hx hu;subst hx;subst hu;have:=cR.ev y;rwa [bS y (by simp [ho,pw,Op.operands,Call.operands];exact .inr (Array.mem_of_getElem? hy))] at this
    ·rw [List.getElem?_append_right (by simp;omega)] at hx;rw [Array.getElem?_append_right (by simp;omega)] at hu;exact vE _ x u hx (by simpa using hu)
  obtain⟨⟨q1,q2,q3,q4,q5⟩,q6⟩:=Fi (s:=s) (s':=s') hL fq hi hk hM nG p7 hW hv oB mG (fun b hb=>fE b hb) ji cR vC vD;refine(H w _ _ _ q1 q2 q3 q4 q5).mono ?_;rintro e w' ⟨u,φ',R',rfl,h1,h2,h3,h4,h5,h6,h7,h8⟩;exact tI _ _ (q6 o.dst w' u φ' R' ⟨h1,h2,h3,h4,h5,h6,h7,h8⟩)
end
abbrev TT:=List (Nat×ae)
def ff (P:Program) (tt:TT):Prop:=∀t d,lk t tt=some d→az P t=some d
theorem aaf (P:Program):ff P []:=fun t d h=>by simp [lk] at h
theorem aI {P:Program} {t:Nat} {d:ae} {l:TT} (h:az P t=some d) (hl:ff P l):ff P ((t,d)::l):=by
 intro t' d' h';rw [dP] at h';split at h'
 ·subst_vars;cases h';exact h
 ·exact hl t' d' h'
def force:AV→Option AV
 |.bot=>some .bot
 |.sc v=>some (.sc v)
 |.bF=>some .bF
 |.agg cs=>some (.agg cs)
 |.bR cs=>some (.bR cs)
 |.sl xs=>some (.sl xs)
 |.vp cs=>some (.vp cs)
 |.ref b i off=>some (.ref b i off)
 |.arr b off len=>some (.arr b off len)
 |.cE f a b=>some (.cE f a b)
 |.iQ d r ks=>some (.iQ d r ks)
 |.jd xs=>some (.jd xs)
theorem force_eq {a v:AV} (h:force a=some v):a=v:=by cases a<;>simp [force] at h<;>exact h
def sd (s:St):List (Nat×Operand)→Option (List (Nat×AV))
 |[]=>some []
 |(i,x)::l=>match force (s.ev x) with
  |none=>none
  |some v=>match sd s l with
   |none=>none
   |some r=>some ((i,v)::r)
theorem I_ (s:St):∀(l:List (Nat×Operand)) (r:List (Nat×AV)),sd s l=some r→oq s l=r
 |[],r,h=>by simp [sd] at h;subst h;rfl
 |(i,x)::l,r,h=>by
  simp only [sd] at h;cases h1:force (s.ev x) with
  |none=>simp [h1] at h
  |some v=>
   cases h2:sd s l with
   |none=>simp [h1,h2] at h
   |some q=>
    simp [h1,h2] at h;subst h;simp [oq,I_ s l q h2,force_eq h1]
def oF (s:St):List Operand→Option (List AV)
 |[]=>some []
 |x::l=>match force (s.ev x) with
  |none=>none
  |some v=>match oF s l with
   |none=>none
   |some r=>some (v::r)
theorem tJ (s:St):∀(l:List Operand) (r:List AV),oF s l=some r→l.map s.ev=r
 |[],r,h=>by simp [oF] at h;subst h;rfl
 |x::l,r,h=>by
  simp only [oF] at h;cases h1:force (s.ev x) with
  |none=>simp [h1] at h
  |some v=>
   cases h2:oF s l with
   |none=>simp [h1,h2] at h
   |some q=>
    simp [h1,h2] at h;subst h;simp [tJ s l q h2,force_eq h1]
def nH:List AV→Nat→Option AV
 |[],_=>none
 |x::_,0=>force x
 |_::l,n+1=>nH l n
theorem yq:∀(l:List AV) (n:Nat) (x:AV),nH l n=some x→l[n]?=some x
 |[],n,x,h=>by simp [nH] at h
 |y::l,0,x,h=>by simp only [nH] at h;simp [force_eq h]
 |y::l,n+1,x,h=>by simp only [nH] at h;simpa using yq l n x h
def se:List AV→Nat→AV→Option (List AV)
 |[],_,_=>none
 |_::l,0,v=>some (v::l)
 |x::l,n+1,v=>match se l n v with
  |none=>none
  |some r=>some (x::r)
theorem Oe:∀(l:List AV) (n:Nat) (v:AV) (r:List AV),se l n v=some r→l.set n v=r
 |[],n,v,r,h=>by simp [se] at h
 |y::l,0,v,r,h=>by simp [se] at h;subst h;rfl
 |y::l,n+1,v,r,h=>by
  simp only [se] at h;cases h1:se l n v with
  |none=>simp [h1] at h
  |some q=>simp [h1] at h;subst h;simp [Oe l n v q h1]
def vF:List (Nat×Nat)→Nat→Option (Nat×Nat)
 |[],_=>none
 |(a,b)::_,0=>some (a,b)
 |_::l,n+1=>vF l n
theorem Og:∀(l:List (Nat×Nat)) (n:Nat),vF l n=l[n]?
 |[],n=>by simp [vF]
 |(a,b)::l,0=>by simp [vF]
 |y::l,n+1=>by simp only [vF];rw [Og l n];simp
def By:IntKind→IntKind→Bool
 |.i8,.i8|.i16,.i16|.i32,.i32|.i64,.i64|.u8,.u8|.u16,.u16|.u32,.u32|.u64,.u64=>true
 |_,_=>false
theorem I' {a b:IntKind} (h:By a b=true):a=b:=by cases a<;>cases b<;>first|rfl|(simp [By] at h)
def sf (i:Int) (n:Nat):Option Nat:=match i with
 |.ofNat k=>match Nat.blt k n with
  |true=>some k
  |false=>none
 |.negSucc _=>none
theorem Ft {i:Int} {n k:Nat} (h:sf i n=some k):0≤i∧i<n∧i.toNat=k:=by
 unfold sf at h;split at h
 ·rename_i q;cases hb:Nat.blt q n with
  |false=>simp [hb] at h
  |true=>
   simp [hb] at h;subst h;have:q<n:=by simpa using hb
   refine⟨by simp,by simp;omega,by simp⟩
 ·cases h
def vG:Int→Bool
 |.ofNat k=>Nat.blt 0 k
 |.negSucc _=>false
theorem Fu {i:Int} (h:vG i=true):i≠0∧0≤i:=by
 cases i with
 |ofNat k=>
  have:0<k:=by simpa [vG] using h
  exact⟨by simp;omega,by simp⟩
 |negSucc k=>simp [vG] at h
def val (v:AV):dN:=⟨v,[],[],[]⟩
def Ja (tt:TT) (T:Nat) (s:St) (p:AV):Option dN:=
 match lk T tt with
 |none=>none
 |some D=>match p with
  |.vp cs=>match rd D cs 0 with
   |some v=>some (val v)
   |none=>none
  |.ref b i off=>match lk b s.m with
   |some (some k)=>match nH k.xs i with
    |some e=>match rd D e.cells off with
     |some v=>some ⟨v,[],[b],[]⟩
     |none=>none
    |none=>none
   |_=>none
  |_=>none
def Jb (tt:TT) (T:Nat) (s:St) (p v:AV):Option dN:=
 match lk T tt with
 |none=>none
 |some D=>match p with
  |.ref b i off=>match lk b s.m with
   |some (some ⟨ty,bW,xs⟩)=>match nH xs i with
    |some e=>match v with
     |.bot=>none
     |v=>match Nat.beq v.cells.length D.size&&v.cells.all AV.k_ with
      |false=>none
      |true=>match tm e off v.cells with
       |none=>none
       |some e'=>match se xs i e' with
        |none=>none
        |some Fv=>some ⟨.bR [],[(b,some ⟨ty,bW,Fv⟩)],[b],[]⟩
    |none=>none
   |_=>none
  |_=>none
def Jc (tt:TT) (t j:Nat) (p:AV):Option dN:=
 match lk t tt with
 |none=>none
 |some D=>match D.k with
  |.struct fs=>match vF fs j with
   |none=>none
   |some (fo,fz)=>match Nat.blt 0 fz with
    |false=>none
    |true=>match p with
     |.ref b i off=>some (val (.ref b i (off+fo)))
     |.vp cs=>match kD cs fo with
      |some l=>some (val (.vp l))
      |none=>none
     |_=>none
  |_=>none
def Jd (tt:TT) (t:Nat) (s:St) (p ix:AV):Option dN:=
 match lk t tt with
 |none=>none
 |some D=>match ix with
  |.sc (.int _ i)=>match D.k with
   |.slice e=>match lk e tt with
    |none=>none
    |some E=>match p with
     |.sl xs=>match sf i xs.length with
      |none=>none
      |some n=>match nH xs n with
       |none=>none
       |some ev=>match Nat.beq ev.cells.length E.size with
        |true=>some (val (.vp ev.cells))
        |false=>none
     |.arr b off len=>match sf i len with
      |none=>none
      |some n=>match lk b s.m with
       |some (some k)=>match Nat.beq k.bW E.size with
        |true=>some ⟨.ref b (off+n) 0,[],[b],[]⟩
        |false=>none
       |_=>none
     |_=>none
   |.array n e=>match lk e tt with
    |none=>none
    |some E=>match sf i n with
     |none=>none
     |some q=>match p with
      |.ref b j off=>some (val (.ref b j (off+q*E.size)))
      |.vp cs=>match kD cs (q*E.size) with
       |some l=>some (val (.vp l))
       |none=>none
      |_=>none
   |_=>none
  |_=>none
def Je (tt:TT) (t:Nat) (s:St) (parts:Array (Nat×Operand)):Option dN:=
 match lk t tt with
 |none=>none
 |some D=>match sd s parts.toList with
  |none=>none
  |some ps=>match D.k with
   |.struct fs=>match EW fs with
    |false=>none
    |true=>match nC (fun j=>fs[j]?) D.zero.cells ps with
     |some l=>some (val (.agg l))
     |none=>none
   |.array _ e=>match lk e tt with
    |none=>none
    |some E=>match nC (fun j=>some (j*E.size,E.size)) D.zero.cells ps with
     |some l=>some (val (.agg l))
     |none=>none
   |_=>none
def Jf (tt:TT) (t len:Nat) (s:St) (parts:Array (Nat×Operand)) (dst:Option Nat):Option dN:=
 match dst with
 |none=>none
 |some d=>match lk t tt with
  |none=>none
  |some D=>match D.k with
   |.slice e=>match lk e tt with
    |none=>none
    |some E=>match Nat.blt 0 E.size&&Nat.ble (len*E.size) 16777216 with
     |false=>none
     |true=>match sd s parts.toList with
      |none=>none
      |some ps=>match nC (fun j=>some (j*E.size,E.size)) (q9 E.zero.cells len) ps with
       |none=>none
       |some l=>match group E.k.isAgg E.size len l with
        |none=>none
        |some xs=>some ⟨.arr d 0 len,[(d,some ⟨e,E.size,xs⟩)],[],[d]⟩
   |_=>none
def Jg (op:BinOp) (x y:AV):Option dN:=
 match x,y with
 |.sc (.int k a),.sc (.int k' b)=>match op with
  |.shl=>match vG b with
   |true=>some (val (.sc (.int k (k.wrap (a*2^(min b.toNat k.bits))))))
   |false=>none
  |.shr=>match vG b with
   |true=>some (val (.sc (.int k (a.fdiv (2^(min b.toNat k.bits))))))
   |false=>none
  |op=>match By k k' with
   |false=>none
   |true=>match op with
    |.quo=>match vG b with
     |true=>some (val (.sc (.int k (k.wrap (a.tdiv b)))))
     |false=>none
    |.rem=>match vG b with
     |true=>some (val (.sc (.int k (a.tmod b))))
     |false=>none
    |op=>match EY op k a b with
     |some v=>some (val (.sc v))
     |none=>none
 |.sc (.string a),.sc (.string b)=>match Be op a b with
  |some v=>some (val (.sc v))
  |none=>none
 |_,_=>none
def Fw (tt:TT) (b:Builtin) (args:List AV) (ga:List Nat):Option dN:=
 match b,args,ga with
 |.len,[v],[t]=>match lk t tt with
  |none=>none
  |some D=>match D.k with
   |.slice _=>match Bf v with
    |some n=>some (val (.sc (.int .i64 n)))
    |none=>none
   |.str=>match v with
    |.sc (.string st)=>some (val (.sc (.int .i64 st.size)))
    |_=>none
   |.array n _=>some (val (.sc (.int .i64 n)))
   |_=>none
 |.max,[.sc (.int k m),.sc (.int k' n)],_=>match By k k' with
  |true=>some (val (.sc (.int k (max m n))))
  |false=>none
 |.min,[.sc (.int k m),.sc (.int k' n)],_=>match By k k' with
  |true=>some (val (.sc (.int k (min m n))))
  |false=>none
 |_,_,_=>none
def Fx (tt:TT) (o:Oper) (s:St):Option dN:=
 match o.op with
 |.move x=>match force (s.ev x) with
  |some v=>some (val v)
  |none=>none
 |.assign x=>match force (s.ev x) with
  |some v=>some (val v)
  |none=>none
 |.pick x y z=>match s.ev x with
  |.sc (.bool true)=>match force (s.ev y) with
   |some v=>some (val v)
   |none=>none
  |.sc (.bool false)=>match force (s.ev z) with
   |some v=>some (val v)
   |none=>none
  |_=>none
 |.alloc T=>match o.dst with
  |none=>none
  |some d=>match lk T tt with
   |none=>none
   |some ⟨_,size,_,zero⟩=>match Nat.blt 0 size with
    |true=>some ⟨.ref d 0 0,[(d,some ⟨T,size,[zero]⟩)],[],[d]⟩
    |false=>none
 |.box T x=>match o.dst with
  |none=>none
  |some d=>match lk T tt with
   |none=>none
   |some ⟨_,size,_,_⟩=>match s.ev x with
    |.bot=>none
    |v=>match Nat.beq v.cells.length size&&Nat.blt 0 size with
     |true=>match force v with
      |some v=>some ⟨.ref d 0 0,[(d,some ⟨T,size,[v]⟩)],[],[d]⟩
      |none=>none
     |false=>none
 |.load T x=>Ja tt T s (s.ev x)
 |.store T x y=>Jb tt T s (s.ev x) (s.ev y)
 |.fieldAddr t x j=>Jc tt t j (s.ev x)
 |.indexAddr t x y=>Jd tt t s (s.ev x) (s.ev y)
 |.build t parts=>Je tt t s parts
 |.buildSlice t len parts=>Jf tt t len s parts o.dst
 |.extract x i=>match s.ev x with
  |.bR cs=>match nH cs i with
   |some v=>some (val v)
   |none=>none
  |_=>none
 |.binOp op _ x y _=>Jg op (s.ev x) (s.ev y)
 |.unOp op _ x=>match s.ev x with
  |.sc v=>match EZ op v with
   |some u=>some (val (.sc u))
   |none=>none
  |_=>none
 |.convert t1 t2 x=>match lk t1 tt,lk t2 tt,s.ev x with
  |some D1,some D2,.sc (.int _ n)=>match D1.k,D2.k with
   |.int _,.int k2=>some (val (.sc (.int k2 (k2.wrap n))))
   |_,_=>none
  |_,_,_=>none
 |.index t x y=>match lk t tt with
  |none=>none
  |some D=>match D.k,s.ev x,s.ev y with
   |.array n e,.agg cs,.sc (.int _ i)=>match lk e tt with
    |none=>none
    |some E=>match sf i n with
     |none=>none
     |some q=>match rd E cs (q*E.size) with
      |some v=>some (val v)
      |none=>none
   |_,_,_=>none
 |.makeFunc fn fs cs=>match fn with
  |.func f=>match oF s fs.toList with
   |none=>none
   |some l1=>match oF s cs.toList with
    |none=>none
    |some l2=>some (val (.cE f l1 l2))
  |_=>none
 |.call c=>match c.callee with
  |.builtin b=>match oF s c.args.toList with
   |none=>none
   |some l=>Fw tt b l c.argTypes.toList
  |_=>none
 |_=>none
end Go.Ab
end
