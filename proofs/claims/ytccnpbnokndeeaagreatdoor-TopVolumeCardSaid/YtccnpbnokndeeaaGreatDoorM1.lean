/- Texts for the law: Ab1, Ab2, Ab3, Ab4, Ab5, Ab6, Ab7, Ab8, Ab9, Ab10, Ab11, Ab12, Ab13, Ab14. -/
import Derived.Calls
import Derived.Below
import Derived.Laws.AppendOwn
import Derived.Laws.Tables
import Derived.Laws.CopyRow
import Derived.Laws.Append
import Derived.Laws.StructEq
import Derived.Orders
noncomputable section
open Option renaming bind→β
open Sum renaming inr→ι,inl→κ
namespace Go.Ab
open Go.RowKit
inductive AV where
 |bot
 |sc (v:Value)
 |b9
 |agg (cs:List AV)
 |cz (cs:List AV)
 |sl (xs:List AV)
 |vp (cs:List AV)
 |ref (b i off:Nat)
 |arr (b off len:Nat)
 |db (f:Nat) (first ar':List AV)
 |jb (d r:Nat) (ks:List ByteArray)
 |ju (xs:List AV)
 deriving Inhabited
def AV.cells:AV→List AV
 |.agg cs=>cs
 |v=>[v]
def AV.k9:AV→Bool
 |.bot|.agg _|.cz _=>false
 |_=>true
def flat:Value→Bool
 |.bool _|.int _ _|.float _ _|.complex _ _ _|.string _|.pointer none|.map none|.chan none|.nilFunc|.nilIface|.func (.yield _) _ _=>true
 |_=>false
structure fc where
 ty:Nat
 cy:Nat
 xs:List AV
structure St where
 n:Nat
 t:List (Nat×AV)
 m:List (Nat×Option fc)
def lk {α:Type}:Nat→List (Nat×α)→Option α
 |_,[]=>none
 |k,(j,v)::l=>match Nat.beq k j with
  |true=>some v
  |false=>lk k l
theorem Hr {α:Type} (k:Nat) (v:α) (l:List (Nat×α)):lk k ((k,v)::l)=some v:=by simp [lk]
theorem D0 {α:Type} {k j:Nat} (v:α) (l:List (Nat×α)) (h:k≠j):lk k ((j,v)::l)=lk k l:=by
 have:Nat.beq k j=false:=by
  cases hb:Nat.beq k j
  ·rfl
  ·exact absurd (Nat.eq_of_beq_eq_true hb) h
 simp [lk,this]
theorem eo {α:Type} (k j:Nat) (v:α) (l:List (Nat×α)):lk k ((j,v)::l)=if k=j then some v else lk k l:=by
 by_cases h:k=j
 ·subst h;simp [Hr]
 ·simp [h,D0]
theorem qO {α:Type} (k:Nat) (l l':List (Nat×α)):lk k (l++l')=(lk k l).or (lk k l'):=by
 induction l with
 |nil=>simp [lk]
 |cons p l ih=>
  obtain⟨j,v⟩:=p;simp only [List.cons_append,eo,ih];split<;>simp
def St.get (s:St) (t:Nat):AV:=match lk t s.t with
 |some v=>v
 |none=>.bot
structure Home where
 cY:Nat
 cy:Nat
 cap:Nat
abbrev Ph:=Nat→Option (Option Home)
def Ph.no:Ph:=fun _=>none
inductive Rel (w:World) (R:Nat→Prop):Ph→AV→Value→Prop where
 |bot {φ:Ph} {v:Value}:Rel w R φ .bot v
 |sc {φ:Ph} {v:Value} (h:flat v=true):Rel w R φ (.sc v) v
 |b9 {φ:Ph}:Rel w R φ .b9 (.slice none 0 0)
 |agg {φ:Ph} {cs:List AV} {vs:Array Value} (hl:cs.length=vs.size) (h:∀(i:Nat) (c:AV) (v:Value),cs[i]?=some c→vs[i]?=some v→Rel w R φ c v):Rel w R φ (.agg cs) (.agg vs)
 |cz {φ:Ph} {cs:List AV} {vs:Array Value} (hl:cs.length=vs.size) (h:∀(i:Nat) (c:AV) (v:Value),cs[i]?=some c→vs[i]?=some v→Rel w R φ c v):Rel w R φ (.cz cs) (.tuple vs)
 |jU {φ:Ph} {a:Option Addr} {cap:Nat}:Rel w R φ (.sl []) (.slice a 0 cap)
 |sl {φ:Ph} {xs:List AV} {b o cap e:Nat} (f:Nat→Value) (he:0<e) (hR:R b) (lY:xs.length≤cap)
   (hl:∀(i:Nat) (x:AV),xs[i]?=some x→x.cells.length=e) (hc:∀k,k<xs.length*e→w.cell? ⟨b,o+k,none⟩=some (f k))
   (hr:∀(i:Nat) (x:AV) (j:Nat) (c:AV),xs[i]?=some x→x.cells[j]?=some c→Rel w R Ph.no c (f (i*e+j))):Rel w R φ (.sl xs) (.slice (some ⟨b,o,none⟩) xs.length cap)
 |vp {φ:Ph} {cs:List AV} {b o:Nat} (f:Nat→Value) (hR:R b) (hc:∀k,k<cs.length→w.cell? ⟨b,o+k,none⟩=some (f k))
   (hr:∀(j:Nat) (c:AV),cs[j]?=some c→Rel w R Ph.no c (f j)):Rel w R φ (.vp cs) (.pointer (some ⟨b,o,none⟩))
 |ref {φ:Ph} {b i off:Nat} {h:Home} (hb:φ b=some (some h)):Rel w R φ (.ref b i off) (.pointer (some ⟨h.cY,i*h.cy+off,none⟩))
 |arr {φ:Ph} {b off len cap:Nat} {h:Home} (hb:φ b=some (some h)) (hl:len≤cap) (hc:off+cap=h.cap):Rel w R φ (.arr b off len) (.slice (some ⟨h.cY,off*h.cy,none⟩) len cap)
 |kA {φ:Ph} {b:Nat} (hb:φ b=some none):Rel w R φ (.arr b 0 0) (.slice none 0 0)
 |db {φ:Ph} {f:Nat} {fs cs:List AV} {fv cv:Array Value} (hf:fs.length=fv.size) (hc:cs.length=cv.size)
   (h1:∀(i:Nat) (c:AV) (v:Value),fs[i]?=some c→fv[i]?=some v→Rel w R φ c v) (h2:∀(i:Nat) (c:AV) (v:Value),cs[i]?=some c→cv[i]?=some v→Rel w R φ c v):Rel w R φ (.db f fs cs) (.func (.func f) fv cv)
 |jb {φ:Ph} {d r clk:Nat} {ks:List ByteArray} {E:Array MapEntry} (hd:φ d=some none) (hR:R r) (hc:w.heap[r]?=some (.map E clk)) (he:E.toList.map (fun e=>(e.key,e.val))=ks.map fun k=>(Value.string k,Value.bool true)):Rel w R φ (.jb d r ks) (.map (some r))
 |ju {φ:Ph} {xs:List AV} {a:Option Addr} {n:Nat} (h:Rel w R φ (.sl xs) (.slice a n n)):Rel w R φ (.ju xs) (.slice a n n)
theorem Rel.mono {w w':World} {R R':Nat→Prop} {φ φ':Ph} {a:AV} {v:Value} (h:Rel w R φ a v)
  (hw:∀n,R n→w'.heap[n]?=w.heap[n]?) (hR:∀n,R n→R' n) (nQ:∀b x,φ b=some x→φ' b=some x):Rel w' R' φ' a v:=by
 induction h generalizing φ' with
 |bot=>exact .bot
 |sc h=>exact .sc h
 |b9=>exact .b9
 |agg hl _ ih=>exact .agg hl fun i c v h1 h2=>ih i c v h1 h2 nQ
 |cz hl _ ih=>exact .cz hl fun i c v h1 h2=>ih i c v h1 h2 nQ
 |jU=>exact .jU
 |@sl φ xs b o cap e f he fe lY hl hc hr ih=>
  refine .sl f he (hR _ fe) lY hl (fun k hk=>?_) (fun i x j c h1 h2=>ih i x j c h1 h2 (fun _ _ h=>h));rw [←hc k hk];exact World.cell?_of_block (hw _ fe)
 |@vp φ cs b o f fe hc hr ih=>
  refine .vp f (hR _ fe) (fun k hk=>?_) (fun j c h1=>ih j c h1 (fun _ _ h=>h));rw [←hc k hk];exact World.cell?_of_block (hw _ fe)
 |ref hb=>exact .ref (nQ _ _ hb)
 |arr hb hl hc=>exact .arr (nQ _ _ hb) hl hc
 |kA hb=>exact .kA (nQ _ _ hb)
 |db hf hc _ _ vc vd=>exact .db hf hc (fun i c v h1 h2=>vc i c v h1 h2 nQ) (fun i c v h1 h2=>vd i c v h1 h2 nQ)
 |jb hd fe hc he=>exact .jb (nQ _ _ hd) (hR _ fe) ((hw _ fe).trans hc) he
 |ju _ ih=>exact .ju (ih nQ)
theorem Rel.cells {w:World} {R:Nat→Prop} {φ:Ph} {a:AV} {v:Value} (h:Rel w R φ a v) (eS:a≠.bot):
  a.cells.length=v.cells.size∧∀(i:Nat) (c:AV) (u:Value),a.cells[i]?=some c→v.cells[i]?=some u→Rel w R φ c u:=by
 have one:∀{a:AV} {v:Value},Rel w R φ a v→a.cells=[a]→v.cells=#[v]→a.cells.length=v.cells.size∧∀(i:Nat) (c:AV) (u:Value),a.cells[i]?=some c→v.cells[i]?=some u→Rel w R φ c u:=by
  intro a v h h1 h2;rw [h1,h2];refine⟨rfl,fun i c u hc hu=>?_⟩;cases i with
  |zero=>simp at hc hu;subst hc;subst hu;exact h
  |succ i=>simp at hc
 cases h with
 |bot=>exact absurd rfl eS
 |agg hl h=>exact⟨hl,h⟩
 |sc hf=>exact one (.sc hf) rfl (by cases v<;>simp_all [flat,Value.cells])
 |b9=>exact one .b9 rfl rfl
 |cz hl h=>exact one (.cz hl h) rfl rfl
 |jU=>exact one .jU rfl rfl
 |sl f he hR lY hl hc hr=>exact one (.sl f he hR lY hl hc hr) rfl rfl
 |vp f hR hc hr=>exact one (.vp f hR hc hr) rfl rfl
 |ref hb=>exact one (.ref hb) rfl rfl
 |arr hb hl hc=>exact one (.arr hb hl hc) rfl rfl
 |kA hb=>exact one (.kA hb) rfl rfl
 |db hf hc h1 h2=>exact one (.db hf hc h1 h2) rfl rfl
 |jb hd hR hc he=>exact one (.jb hd hR hc he) rfl rfl
 |ju h=>exact one (.ju h) rfl rfl
theorem Rel.Hs {w:World} {R:Nat→Prop} {φ:Ph} {a:AV} {v:Value} (h:Rel w R φ a v) (hc:a.k9=true):v.oneCell'=true:=by
 cases h<;>simp_all [AV.k9,Value.oneCell']
 rename_i hf;cases v<;>simp_all [flat]
def iT (w:World) (R:Nat→Prop) (φ:Ph) (oh:Option Home) (k:fc):Prop:=
 match oh with
 |none=>k.xs=[]
 |some h=>k.cy=h.cy∧0<h.cy∧k.xs.length≤h.cap∧h.cap≤maxLen∧∃C,w.heap[h.cY]?=some (.cells C k.ty (0,0))∧C.size=h.cap*h.cy∧
   ∀(i:Nat) (x:AV),k.xs[i]?=some x→x.cells.length=h.cy∧∀(j:Nat) (c:AV),x.cells[j]?=some c→∃u,C[i*h.cy+j]?=some u∧Rel w R φ c u
def o8:List (Nat×List AV):=[(1,[.sc (.int .i64 1),.sc (.int .i64 0),.sc (.int .i64 0),.sc (.int .i64 1),.sc (.int .i64 (-1)),.sc (.int .i64 0),.sc (.int .i64 0),.sc (.int .i64 (-1))]),(2,[.sc (.int .i64 (-1)),.sc (.int .i64 1)])]
def tI (w:World) (R:Nat→Prop):Prop:=∀g cs,lk g o8=some cs→R g∧∀k c,cs[k]?=some c→∃v,flat v=true∧c=.sc v∧w.cell? ⟨g,k,none⟩=some v
theorem tI.mono {w w':World} {R R':Nat→Prop} (h:tI w R) (hw:∀n,R n→w'.heap[n]?=w.heap[n]?) (hR:∀n,R n→R' n):tI w' R':=fun g cs hg=>by
 obtain⟨h1,h2⟩:=h g cs hg;refine⟨hR g h1,fun k c hk=>?_⟩;obtain⟨v,e1,e2,e3⟩:=h2 k c hk;exact⟨v,e1,e2,(World.cell?_of_block (hw g h1)).trans e3⟩
structure gX (w:World) (R:Nat→Prop) (φ:Ph) (m:List (Nat×Option fc)):Prop where
 rel:∀b k,lk b m=some (some k)→∃oh,φ b=some oh∧iT w R φ oh k
 inj:∀b b' k k' h h',lk b m=some (some k)→lk b' m=some (some k')→φ b=some (some h)→φ b'=some (some h')→h.cY=h'.cY→b=b'
 ga:∀b k h,lk b m=some (some k)→φ b=some (some h)→¬R h.cY
 gl:tI w R
def dj (φ:Ph) (m:List (Nat×Option fc)) (n:Nat):Prop:=∃b k h,lk b m=some (some k)∧φ b=some (some h)∧h.cY=n
structure Ext (w w':World) (G:Nat→Prop):Prop where
 os:w'.os=w.os
 tape:w'.tape=w.tape
 output:w'.output=w.output
 dr:w.drawn≤w'.drawn
 size:w.heap.size≤w'.heap.size
 block:∀i,i<w.heap.size→¬G i→w'.heap[i]?=w.heap[i]?
theorem Ext.refl (w:World) (G:Nat→Prop):Ext w w G:=⟨rfl,rfl,rfl,Nat.le_refl _,Nat.le_refl _,fun _ _ _=>rfl⟩
theorem Ext.trans {a b c:World} {G G':Nat→Prop} (h:Ext a b G) (k:Ext b c G') (hG:∀i,i<a.heap.size→G' i→G i):Ext a c G:=
 ⟨k.os.trans h.os,k.tape.trans h.tape,k.output.trans h.output,Nat.le_trans h.dr k.dr,Nat.le_trans h.size k.size,fun i hi hn=>
  (k.block i (Nat.lt_of_lt_of_le hi h.size) (fun hg=>hn (hG i hi hg))).trans (h.block i hi hn)⟩
theorem Ext.below {w w':World} {G:Nat→Prop} (h:Ext w w' G) (hG:∀i,¬G i):Below w.heap.size w w':=
 ⟨h.os,h.tape,h.output,h.size,fun k hk=>h.block k hk (hG k)⟩
structure Ctx where
 w0:World
 G:Nat→Prop
 R0:Nat→Prop
 xS:Ph
 ds:List Deferred
structure cW (c:Ctx) (φ:Ph) (R:Nat→Prop) (s:St) (a:Act) (w:World):Prop where
 n:a.tmps.size=s.n
 t:∀t av,lk t s.t=some av→Rel w R φ av (a.tmps.getD t undef)
 m:gX w R φ s.m
 gM:∀b x,φ b=some x→∃y,lk b s.m=some y
 fresh:∀b k h,lk b s.m=some (some k)→φ b=some (some h)→c.w0.heap.size≤h.cY∨c.G h.cY
 R0:∀n,c.R0 n→R n
 Rn:∀n,R n→c.R0 n∨c.w0.heap.size≤n∨c.G n
 Rb:∀n,R n→n<w.heap.size
 ext:Ext c.w0 w c.G
 d:a.defers=c.ds
 gi:∀b,1000≤b→φ b=none∨φ b=c.xS b
def Fr (s:St) (d:Nat):Prop:=lk d s.m=none∧d<1000
def dJ (c:Ctx) (s:St) (a:Act) (w:World):Prop:=∃φ R,cW c φ R s a w
theorem cW.get {c:Ctx} {φ:Ph} {R:Nat→Prop} {s:St} {a:Act} {w:World} (h:cW c φ R s a w) (t:Nat):Rel w R φ (s.get t) (a.tmps.getD t undef):=by
 unfold St.get;split
 ·rename_i v hv;exact h.t _ _ hv
 ·exact .bot
def ofConst:Value→AV
 |.slice none 0 0=>.b9
 |v=>match flat v with
  |true=>.sc v
  |false=>.bot
theorem Ht {w:World} {R:Nat→Prop} {φ:Ph} (v:Value):Rel w R φ (ofConst v) v:=by
 unfold ofConst;split
 ·exact .b9
 ·split
  ·rename_i h;exact .sc h
  ·exact .bot
def St.ev (s:St):Operand→AV
 |.tmp t=>s.get t
 |.const v=>ofConst v
 |.global g=>match lk g o8 with
  |some cs=>.vp cs
  |none=>.bot
 |.func f=>.db f [] []
theorem cW.ev {c:Ctx} {φ:Ph} {R:Nat→Prop} {s:St} {a:Act} {w:World} (h:cW c φ R s a w) (x:Operand):Rel w R φ (s.ev x) (a.eval x):=by
 cases x with
 |tmp t=>exact h.get t
 |const v=>exact Ht v
 |global g=>
  show Rel w R φ (match lk g o8 with|some cs=>.vp cs|none=>.bot) (.pointer (some ⟨g,0,none⟩))
  cases hg:lk g o8 with
  |none=>exact .bot
  |some cs=>
   obtain⟨h1,h2⟩:=h.m.gl g cs hg;refine .vp (fun k=>((w.cell? ⟨g,k,none⟩).getD undef)) h1 (fun k hk=>?_) (fun k c hk=>?_)
   ·obtain⟨v,_,_,e⟩:=h2 k _ (List.getElem?_eq_getElem hk);rw [Nat.zero_add,e];rfl
   ·obtain⟨v,e1,rfl,e⟩:=h2 k c hk;rw [e];exact .sc e1
 |func f=>exact .db rfl rfl (by simp) (by simp)
def St.put (s:St) (dst:Option Nat) (v:AV):St:=
 match dst with
 |none=>s
 |some d=>match Nat.blt d s.n with
  |true=>{s with t:=(d,v)::s.t}
  |false=>s
@[simp] theorem St.asa (s:St) (dst:Option Nat) (v:AV):(s.put dst v).m=s.m:=by
 unfold St.put;split
 ·rfl
 ·split<;>rfl
@[simp] theorem St.asb (s:St) (dst:Option Nat) (v:AV):(s.put dst v).n=s.n:=by
 unfold St.put;split
 ·rfl
 ·split<;>rfl
theorem St.aay {s:St} {a:Act} {dst:Option Nat} {v:AV} {u:Value} {w:World} {R:Nat→Prop} {φ:Ph} (hn:a.tmps.size=s.n)
  (ht:∀t av,lk t s.t=some av→Rel w R φ av (a.tmps.getD t undef)) (hv:Rel w R φ v u):
  ∀t av,lk t (s.put dst v).t=some av→Rel w R φ av ((a.put dst u).tmps.getD t undef):=by
 intro t av h;unfold St.put at h;cases dst with
 |none=>simpa [Act.put] using ht t av h
 |some d=>
  simp only [Act.put];by_cases hd:d<s.n
  ·have hb:Nat.blt d s.n=true:=by simpa [Nat.blt_eq] using hd
   simp only [hb] at h;rw [eo] at h;by_cases e:t=d
   ·subst e;simp at h;subst h;simp [Array.getD_eq_getD_getElem?,hn,hd];exact hv
   ·simp [e] at h;have:=ht t av h;simpa [Array.getD_eq_getD_getElem?,Array.getElem?_setIfInBounds,Ne.symm e] using this
  ·have hb:Nat.blt d s.n=false:=by
    cases hx:Nat.blt d s.n
    ·rfl
    ·exact absurd (by simpa [Nat.blt_eq] using hx) hd
   simp only [hb] at h;have:=ht t av h
   have e:a.tmps.setIfInBounds d u=a.tmps:=by
    apply Array.ext (by simp);intro i h1 h2;rw [Array.getElem_setIfInBounds];split
    ·subst_vars;omega
    ·rfl
   simpa [e] using this
@[simp] theorem asc (a:Act) (dst:Option Nat) (v:Value):(a.put dst v).tmps.size=a.tmps.size:=by cases dst<;>simp [Act.put]
@[simp] theorem put_defers (a:Act) (dst:Option Nat) (v:Value):(a.put dst v).defers=a.defers:=by cases dst<;>simp [Act.put]
theorem cW.put {c:Ctx} {φ:Ph} {R:Nat→Prop} {s:St} {a:Act} {w:World} (h:cW c φ R s a w) (dst:Option Nat) {v:AV} {u:Value} (hv:Rel w R φ v u):
  cW c φ R (s.put dst v) (a.put dst u) w:=
 ⟨by simp [h.n],St.aay h.n h.t hv,by simpa using h.m,by simpa using h.gM,by simpa using h.fresh,h.R0,h.Rn,h.Rb,h.ext,by simp [h.d],h.gi⟩
structure ec where
 v:AV
 wr:List (Nat×Option fc)
 acc:List Nat
 nw:List Nat
def St.app (s:St) (dst:Option Nat) (e:ec):St:={n:=s.n,t:=(s.put dst e.v).t,m:=e.wr++s.m}
def D3 (P:Program) (o:Oper) (s s':St):Prop:=
 ∀(c:Ctx) (a:Act) (w:World) (next:Act→World→Prop) (Q:Exit→Act→World→Prop),dJ c s a w→(∀a' w',dJ c s' a' w'→next a' w')→o.wp P a w next Q
def di (P:Program) (o:Oper) (s:St) (e:ec):Prop:=
 ∀s':St,s'.n=s.n→(∀x∈o.op.operands.toList,s'.ev x=s.ev x)→(∀b∈e.acc,lk b s'.m=lk b s.m)→(∀b∈e.nw,Fr s' b)→D3 P o s' (s'.app o.dst e)
theorem tJ {P:Program} {o:Oper} {s s':St}
  (h:∀c φ R a w,cW c φ R s a w→∃v w' φ' R',(execOp a.eval o).run P w=.ok (.value v) w'∧cW c φ' R' s' (a.put o.dst v) w'):D3 P o s s':=by
 intro c a w next Q ⟨φ,R,hs⟩ hn
 obtain⟨v,w',φ',R',hr,cJ⟩:=h c φ R a w hs;unfold Oper.wp;rw [hr];exact hn _ _ ⟨φ',R',cJ⟩
theorem aaz {P:Program} {o:Oper} {s s':St}
  (h:∀c φ R a w,cW c φ R s a w→∃w' φ' R',(execOp a.eval o).run P w=.ok .skip w'∧cW c φ' R' s' (a.put o.dst undef) w'):D3 P o s s':=by
 intro c a w next Q ⟨φ,R,hs⟩ hn
 obtain⟨w',φ',R',hr,cJ⟩:=h c φ R a w hs;unfold Oper.wp;rw [hr];exact hn _ _ ⟨φ',R',cJ⟩
def Ph.up (φ:Ph) (d:Nat) (x:Option Home):Ph:=fun b=>if b=d then some x else φ b
theorem Ph.AU {φ:Ph} {d:Nat} (x:Option Home) (h:φ d=none):∀b y,φ b=some y→φ.up d x b=some y:=by
 intro b y hb;unfold Ph.up;split
 ·subst_vars;rw [h] at hb;cases hb
 ·exact hb
theorem cW.lt {c:Ctx} {φ:Ph} {R:Nat→Prop} {s:St} {a:Act} {w:World} (h:cW c φ R s a w) {b:Nat} {k:fc} {x:Home} (hb:lk b s.m=some (some k)) (hx:φ b=some (some x)):x.cY<w.heap.size:=by
 obtain⟨oh,ho,hr⟩:=h.m.rel b k hb;rw [hx] at ho;cases ho;obtain⟨_,_,_,_,C,hC,_⟩:=hr;exact(Array.getElem?_eq_some_iff.1 hC).1
theorem iT.mono {w w':World} {R:Nat→Prop} {φ φ':Ph} {oh:Option Home} {k:fc} (h:iT w R φ oh k) (hw:∀n,R n→w'.heap[n]?=w.heap[n]?)
  (hb:∀x,oh=some x→w'.heap[x.cY]?=w.heap[x.cY]?) (nQ:∀b x,φ b=some x→φ' b=some x):iT w' R φ' oh k:=by
 cases oh with
 |none=>exact h
 |some x=>
  obtain⟨h1,h2,h3,h4,C,hC,hs,hr⟩:=h;refine⟨h1,h2,h3,h4,C,by rw [hb x rfl];exact hC,hs,fun i y hy=>⟨(hr i y hy).1,fun j z hz=>?_⟩⟩;obtain⟨u,hu,il⟩:=(hr i y hy).2 j z hz;exact⟨u,hu,il.mono hw (fun _ h=>h) nQ⟩
theorem cW.add {c:Ctx} {φ:Ph} {R:Nat→Prop} {s:St} {a:Act} {w w':World} (h:cW c φ R s a w) (d:Nat) (gY:Fr s d) (k:fc) (x:Home)
  (he:Ext w w' (fun _=>False)) (hx:w.heap.size≤x.cY) (hk:iT w' R (φ.up d (some x)) (some x) k):
  cW c (φ.up d (some x)) R {s with m:=(d,some k)::s.m} a w':=by
 obtain⟨hd,pP⟩:=gY
 have ve:φ d=none:=by
  cases hq:φ d with
  |none=>rfl
  |some y=>obtain⟨z,hz⟩:=h.gM d y hq;rw [hd] at hz;cases hz
 have xT:=Ph.AU (φ:=φ) (d:=d) (some x) ve;have hw:∀n,R n→w'.heap[n]?=w.heap[n]?:=fun n hn=>he.block n (h.Rb n hn) (by simp)
 have pQ:φ.up d (some x) d=some (some x):=by simp [Ph.up]
 have iK:∀b,b≠d→φ.up d (some x) b=φ b:=fun b hb=>by simp [Ph.up,hb]
 refine⟨h.n,fun t av ht=>(h.t t av ht).mono hw (fun _ h=>h) xT,⟨?_,?_,?_,h.m.gl.mono hw (fun _ h=>h)⟩,?_,?_,h.R0,h.Rn,fun n hn=>Nat.lt_of_lt_of_le (h.Rb n hn) he.size,h.ext.trans he (fun _ _ hf=>hf.elim),h.d,fun b hb=>by rw [iK b (by omega)];exact h.gi b hb⟩
 ·intro b kk hb;rw [eo] at hb;split at hb
  ·subst_vars;cases hb;exact⟨_,pQ,hk⟩
  ·rename_i eS;obtain⟨oh,ho,hr⟩:=h.m.rel b kk hb;refine⟨oh,by rw [iK b eS];exact ho,hr.mono hw (fun y hy=>?_) xT⟩;subst hy;exact he.block _ (h.lt hb ho) (by simp)
 ·intro b b' k1 k2 y y' hb ig hy kK heq;rw [eo] at hb ig;by_cases e:b=d
  ·by_cases e':b'=d
   ·rw [e,e']
   ·exfalso;subst e;rw [if_neg e'] at ig;rw [pQ] at hy;cases hy;rw [iK _ e'] at kK;have:=h.lt ig kK;omega
  ·by_cases e':b'=d
   ·exfalso;subst e';rw [if_neg e] at hb;rw [pQ] at kK;cases kK;rw [iK _ e] at hy;have:=h.lt hb hy;omega
   ·rw [if_neg e] at hb;rw [if_neg e'] at ig;rw [iK _ e] at hy;rw [iK _ e'] at kK;exact h.m.inj b b' k1 k2 y y' hb ig hy kK heq
 ·intro b k1 y hb hy;rw [eo] at hb;by_cases e:b=d
  ·subst e;rw [pQ] at hy;cases hy;intro hR;have:=h.Rb _ hR;omega
  ·rw [if_neg e] at hb;rw [iK _ e] at hy;exact h.m.ga b k1 y hb hy
 ·intro b y hy;by_cases e:b=d
  ·exact⟨some k,by rw [eo,if_pos e]⟩
  ·rw [iK _ e] at hy;obtain⟨z,hz⟩:=h.gM b y hy;exact⟨z,by rw [eo,if_neg e];exact hz⟩
 ·intro b k1 y hb hy;rw [eo] at hb;by_cases e:b=d
  ·subst e;rw [pQ] at hy;cases hy;exact .inl (Nat.le_trans h.ext.size hx)
  ·rw [if_neg e] at hb;rw [iK _ e] at hy;exact h.fresh b k1 y hb hy
theorem cW.write {c:Ctx} {φ:Ph} {R:Nat→Prop} {s:St} {a:Act} {w:World} (h:cW c φ R s a w) {b:Nat} {k k':fc} {x:Home} (hb:lk b s.m=some (some k)) (hx:φ b=some (some x))
  (C':Array Value) (hk:iT (w.setRow x.cY C') R φ (some x) k'):cW c φ R {s with m:=(b,some k')::s.m} a (w.setRow x.cY C'):=by
 have iK:∀n,n≠x.cY→(w.setRow x.cY C').heap[n]?=w.heap[n]?:=fun n hn=>setRow_other w x.cY n C' hn
 have lC:=h.m.ga b k x hb hx;have hw:∀n,R n→(w.setRow x.cY C').heap[n]?=w.heap[n]?:=fun n hn=>iK n (fun e=>lC (e▸hn))
 refine⟨h.n,fun t av ht=>(h.t t av ht).mono hw (fun _ h=>h) (fun _ _ h=>h),⟨?_,?_,?_,h.m.gl.mono hw (fun _ h=>h)⟩,?_,?_,h.R0,h.Rn,fun n hn=>by simpa using h.Rb n hn,?_,h.d,h.gi⟩
 ·intro b1 k1 h1;rw [eo] at h1;split at h1
  ·subst_vars;cases h1;exact⟨_,hx,hk⟩
  ·rename_i eS;obtain⟨oh,ho,hr⟩:=h.m.rel b1 k1 h1;refine⟨oh,ho,hr.mono hw (fun y hy=>iK _ (fun e=>eS ?_)) (fun _ _ h=>h)⟩;subst hy;exact h.m.inj b1 b k1 k y x h1 hb ho hx e
 ·intro b1 b2 k1 k2 y1 y2 h1 h2 e1 e2 heq
  have f:∀b1 k1,lk b1 ((b,some k')::s.m)=some (some k1)→∃k0,lk b1 s.m=some (some k0):=by
   intro b1 k1 h1;rw [eo] at h1;split at h1
   ·subst_vars;exact⟨k,hb⟩
   ·exact⟨k1,h1⟩
  obtain⟨q1,g1⟩:=f b1 k1 h1;obtain⟨q2,g2⟩:=f b2 k2 h2;exact h.m.inj b1 b2 q1 q2 y1 y2 g1 g2 e1 e2 heq
 ·intro b1 k1 y h1 e1;rw [eo] at h1;split at h1
  ·subst_vars;exact h.m.ga _ k y hb e1
  ·exact h.m.ga b1 k1 y h1 e1
 ·intro b1 y hy;obtain⟨z,hz⟩:=h.gM b1 y hy;rw [eo];split
  ·exact⟨_,rfl⟩
  ·exact⟨z,hz⟩
 ·intro b1 k1 y h1 e1;rw [eo] at h1;split at h1
  ·subst_vars;exact h.fresh _ k y hb e1
  ·exact h.fresh b1 k1 y h1 e1
 ·refine h.ext.trans (G':=fun i=>i=x.cY) ⟨rfl,rfl,rfl,Nat.le_refl _,by simp,fun i _ hi=>iK i hi⟩ (fun i hi e=>?_);rcases h.fresh b k x hb hx with hf|hf
  ·omega
  ·rw [e];exact hf
theorem cW.kill {c:Ctx} {φ:Ph} {R:Nat→Prop} {s:St} {a:Act} {w:World} (h:cW c φ R s a w) (b:Nat):cW c φ R {s with m:=(b,none)::s.m} a w:=by
 have f:∀b1 k1,lk b1 ((b,none)::s.m)=some (some k1)→lk b1 s.m=some (some k1):=by
  intro b1 k1 h1;rw [eo] at h1;split at h1
  ·cases h1
  ·exact h1
 refine⟨h.n,h.t,⟨fun b1 k1 h1=>h.m.rel b1 k1 (f _ _ h1),fun b1 b2 k1 k2 y1 y2 h1 h2=>h.m.inj b1 b2 k1 k2 y1 y2 (f _ _ h1) (f _ _ h2),fun b1 k1 y h1=>h.m.ga b1 k1 y (f _ _ h1),h.m.gl⟩,?_,fun b1 k1 y h1=>h.fresh b1 k1 y (f _ _ h1),h.R0,h.Rn,h.Rb,h.ext,h.d,h.gi⟩;intro b1 y hy;obtain⟨z,hz⟩:=h.gM b1 y hy;rw [eo];split
 ·exact⟨_,rfl⟩
 ·exact⟨z,hz⟩
theorem cW.app {c:Ctx} {φ:Ph} {R:Nat→Prop} {s:St} {a:Act} {w:World} {m:List (Nat×Option fc)} (h:cW c φ R {s with m:=m} a w) (dst:Option Nat) {v:AV} {u:Value} (hv:Rel w R φ v u):
  cW c φ R {n:=s.n,t:=(s.put dst v).t,m:=m} (a.put dst u) w:=by
 have:=h.put dst hv
 have e:(St.put {s with m:=m} dst v).t=(s.put dst v).t:=by
  unfold St.put;cases dst with
  |none=>rfl
  |some d=>dsimp only;cases Nat.blt d s.n<;>rfl
 exact⟨by simpa using this.n,by rw [←e];exact this.t,by simpa using this.m,by simpa using this.gM,by simpa using this.fresh,this.R0,this.Rn,this.Rb,this.ext,this.d,this.gi⟩
theorem gj {P:Program} {o:Oper} {s:St} {v:AV} {acc:List Nat}
  (h:∀c φ R a w,cW c φ R s a w→∃u,(execOp a.eval o).run P w=.ok (.value u) w∧Rel w R φ v u):D3 P o s (s.app o.dst ⟨v,[],acc,[]⟩):=by
 refine tJ fun c φ R a w hs=>?_
 obtain⟨u,hr,hv⟩:=h c φ R a w hs;exact⟨u,w,φ,R,hr,cW.app (s:=s) (m:=s.m) hs o.dst hv⟩
inductive aL where
 |base|bool|int (k:IntKind)|str|slice (e:Nat)|array (n e:Nat)|struct (fs:List (Nat×Nat))
def aL.isAgg:aL→Bool
 |.array _ _|.struct _=>true
 |_=>false
structure af where
 k:aL
 size:Nat
 bytes:Nat
 zero:AV
def o9:Value→AV
 |.agg vs=>.agg (vs.toList.map ofConst)
 |v=>ofConst v
def kindOf (P:Program):TypeDesc→aL
 |.bool=>.bool
 |.int k=>.int k
 |.string=>.str
 |.slice e=>.slice e
 |.array n e=>.array n e
 |.struct F=>.struct (F.toList.map fun f=>(f.offset,P.cellsOf f.type))
 |_=>.base
def aF (P:Program) (t:Nat):Option af:=
 match P.info? t with
 |none=>none
 |some i=>match i.zero with
  |none=>none
  |some z=>match P.underlying t with
   |none=>none
   |some u=>match Nat.beq z.cells.size i.size with
    |true=>some {k:=kindOf P u,size:=i.size,bytes:=i.bytes,zero:=o9 z}
    |false=>none
theorem kB {P:Program} {t:Nat} {d:af} (h:aF P t=some d):∃i z u,P.info? t=some i∧i.zero=some z∧P.underlying t=some u∧i.size=d.size∧i.bytes=d.bytes∧d.zero=o9 z∧z.cells.size=d.size∧d.k=kindOf P u:=by
 unfold aF at h;cases hi:P.info? t with
 |none=>simp [hi] at h
 |some i=>
  cases hz:i.zero with
  |none=>simp [hi,hz] at h
  |some z=>
   cases hu:P.underlying t with
   |none=>simp [hi,hz,hu] at h
   |some u=>
    simp only [hi,hz,hu] at h;cases hb:Nat.beq z.cells.size i.size with
    |false=>simp [hb] at h
    |true=>
     simp only [hb,Option.some.injEq] at h;subst h;exact⟨i,z,u,rfl,hz,rfl,rfl,rfl,rfl,Nat.eq_of_beq_eq_true hb,rfl⟩
theorem aaA {v:Value} (h:v.cells=#[v]):(ofConst v).cells=[ofConst v]:=by
 unfold ofConst;split
 ·rfl
 ·split<;>rfl
theorem xU (w:World) (R:Nat→Prop) (φ:Ph) (z:Value):(o9 z).cells.length=z.cells.size∧∀(i:Nat) (c:AV) (u:Value),(o9 z).cells[i]?=some c→z.cells[i]?=some u→Rel w R φ c u:=by
 have one:∀v:Value,v.cells=#[v]→o9 v=ofConst v→(o9 v).cells.length=v.cells.size∧∀(i:Nat) (c:AV) (u:Value),(o9 v).cells[i]?=some c→v.cells[i]?=some u→Rel w R φ c u:=by
  intro v hv he;rw [he,aaA hv,hv];refine⟨rfl,fun i c u hc hu=>?_⟩;cases i with
  |zero=>simp at hc hu;subst hc;subst hu;exact Ht v
  |succ i=>simp at hc
 cases z with
 |agg vs=>
  refine⟨by simp [o9,AV.cells,Value.cells],fun i c u hc hu=>?_⟩;simp only [o9,AV.cells,List.getElem?_map,Value.cells] at hc hu;rw [←Array.getElem?_toList] at hu;rw [hu] at hc;simp at hc;subst hc;exact Ht u
 |_=>exact one _ rfl rfl
theorem D4 {P:Program} {t:Nat} {d:af} (h:aF P t=some d) (w:World):(isAgg t).run P w=.ok d.k.isAgg w:=by
 obtain⟨i,z,u,_,_,hu,_,_,_,_,hk⟩:=kB h;unfold isAgg;rw [Sem.run_bind,run_underlying hu w,hk];cases u<;>simp [kindOf,aL.isAgg]
theorem run_sizeOf {P:Program} {t:Nat} {d:af} (h:aF P t=some d) (w:World):(sizeOf t).run P w=.ok d.size w:=by
 obtain⟨i,z,u,hi,_,_,hs,_⟩:=kB h;simp [sizeOf,typeInfo,hi,hs]
theorem qP (b o n:Nat):(⟨b,o,none⟩:Addr).add n=⟨b,o+n,none⟩:=by unfold Addr.add;split<;>simp_all
section
variable{P:Program} {o:Oper} {s:St}
theorem aaB {x:Operand} {v:AV} (ho:o.op=.move x) (hx:s.ev x=v):di P o s ⟨v,[],[],[]⟩:=by
 intro s' _ ca _ _;refine gj fun c φ R a w hs=>⟨a.eval x,by simp [execOp,ho],?_⟩
 have:=hs.ev x;rwa [ca x (by simp [ho,Op.operands]),hx] at this
theorem aaC {x:Operand} {v:AV} (ho:o.op=.assign x) (hx:s.ev x=v):di P o s ⟨v,[],[],[]⟩:=by
 intro s' _ ca _ _;refine gj fun c φ R a w hs=>⟨a.eval x,by simp [execOp,ho],?_⟩
 have:=hs.ev x;rwa [ca x (by simp [ho,Op.operands]),hx] at this
theorem Rel.gN {w:World} {R:Nat→Prop} {φ:Ph} {v u:Value} (h:Rel w R φ (.sc v) u):u=v:=by cases h;rfl
theorem Ow {x y z:Operand} {b:Bool} {v:AV} (ho:o.op=.pick x y z) (hx:s.ev x=.sc (.bool b)) (hv:cond b (s.ev y) (s.ev z)=v):di P o s ⟨v,[],[],[]⟩:=by
 intro s' _ ca _ _;refine gj fun c φ R a w hs=>?_
 have h1:=hs.ev x;rw [ca x (by simp [ho,Op.operands]),hx] at h1;have h1:=h1.gN;cases b
 ·refine⟨a.eval z,by simp [execOp,ho,h1,asBool],?_⟩;have:=hs.ev z;rw [ca z (by simp [ho,Op.operands])] at this;exact hv▸this
 ·refine⟨a.eval y,by simp [execOp,ho,h1,asBool],?_⟩;have:=hs.ev y;rw [ca y (by simp [ho,Op.operands])] at this;exact hv▸this
theorem aaD {w:World} {R:Nat→Prop} {φ:Ph} {T n:Nat} {C:Array Value} {av:AV} (fe:∀n,R n→n<w.heap.size) (hn:0<n) (hC:C.size=n) (ha:av.cells.length=n)
  (hr:∀(i:Nat) (c:AV) (u:Value),av.cells[i]?=some c→C[i]?=some u→Rel w R φ c u) {φ':Ph} (nQ:∀b x,φ b=some x→φ' b=some x):
  iT (w.alloc (.cells C T)) R φ' (some ⟨w.heap.size,n,1⟩) ⟨T,n,[av]⟩:=by
 refine⟨rfl,hn,Nat.le_refl _,by simp [maxLen],C,heap_alloc_new w _,by simp [hC],fun i x hx=>?_⟩;cases i with
 |succ i=>simp at hx
 |zero=>
  simp at hx;subst hx;refine⟨ha,fun j c hc=>?_⟩;have hj:j<C.size:=by rw [hC,←ha];exact(List.getElem?_eq_some_iff.1 hc).1
  refine⟨C[j],by simp [hj],(hr j c C[j] hc (by simp [hj])).mono (fun n hn=>heap_alloc_old w _ n (fe n hn)) (fun _ h=>h) nQ⟩
theorem aaE (w:World) (ob:Obj):Ext w (w.alloc ob) (fun _=>False):=⟨rfl,rfl,rfl,Nat.le_refl _,by simp,fun i hi _=>heap_alloc_old w ob i hi⟩
theorem cW.box {c:Ctx} {φ:Ph} {R:Nat→Prop} {a:Act} {w:World} (h:cW c φ R s a w) (d:Nat) (gY:Fr s d) {T n:Nat} {C:Array Value} {av:AV} (hn:0<n) (hC:C.size=n) (ha:av.cells.length=n)
  (hr:∀(i:Nat) (c:AV) (u:Value),av.cells[i]?=some c→C[i]?=some u→Rel w R φ c u) (dst:Option Nat):
  cW c (φ.up d (some ⟨w.heap.size,n,1⟩)) R (s.app dst ⟨.ref d 0 0,[(d,some ⟨T,n,[av]⟩)],[],[d]⟩) (a.put dst (.pointer (some ⟨w.heap.size,0,none⟩))) (w.alloc (.cells C T)):=by
 have ve:φ d=none:=by
  cases hq:φ d with
  |none=>rfl
  |some y=>obtain⟨z,hz⟩:=h.gM d y hq;rw [gY.1] at hz;cases hz
 have:=h.add d gY ⟨T,n,[av]⟩ ⟨w.heap.size,n,1⟩ (aaE w (.cells C T)) (Nat.le_refl _) (aaD h.Rb hn hC ha hr (Ph.AU _ ve));refine cW.app this dst ?_;have e:=Rel.ref (w:=w.alloc (.cells C T)) (R:=R) (φ:=φ.up d (some ⟨w.heap.size,n,1⟩)) (b:=d) (i:=0) (off:=0) (h:=⟨w.heap.size,n,1⟩) (by simp [Ph.up]);simpa using e
theorem aaF {T d:Nat} {D:af} (ho:o.op=.alloc T) (hT:aF P T=some D) (hs:Nat.blt 0 D.size=true):
  di P o s ⟨.ref d 0 0,[(d,some ⟨T,D.size,[D.zero]⟩)],[],[d]⟩:=by
 intro s' _ _ _ jE;refine tJ fun c φ R a w h=>?_
 obtain⟨i,z,u,hi,hz,_,ed,_,hzero,jc,_⟩:=kB hT;have hc:=xU w R φ z;refine⟨.pointer (some ⟨w.heap.size,0,none⟩),w.alloc (.cells z.cells T),φ.up d (some ⟨w.heap.size,D.size,1⟩),R,by simp [execOp,ho,Instr.alloc,zeroValue,typeInfo,hi,hz,newVar,newRow],?_⟩;exact h.box d (jE d (by simp)) (by simpa using hs) jc (by rw [hzero,hc.1,jc]) (by rw [hzero];exact hc.2) o.dst
theorem aaG {T d:Nat} {x:Operand} {D:af} {v:AV} (ho:o.op=.box T x) (_hT:aF P T=some D) (hx:s.ev x=v) (hv:v≠.bot) (hl:Nat.beq v.cells.length D.size=true) (hs:Nat.blt 0 D.size=true):
  di P o s ⟨.ref d 0 0,[(d,some ⟨T,D.size,[v]⟩)],[],[d]⟩:=by
 intro s' _ ca _ jE;refine tJ fun c φ R a w h=>?_
 have hr:=h.ev x;rw [ca x (by simp [ho,Op.operands]),hx] at hr;have hc:=hr.cells hv;have vh:=Nat.eq_of_beq_eq_true hl;refine⟨.pointer (some ⟨w.heap.size,0,none⟩),w.alloc (.cells (a.eval x).cells T),φ.up d (some ⟨w.heap.size,D.size,1⟩),R,by simp [execOp,ho,Instr.box,newVar,newRow],?_⟩;exact h.box d (jE d (by simp)) (by simpa using hs) (by rw [←hc.1,vh]) vh hc.2 o.dst
def sub (cs:List AV):Nat→Nat→Option (List AV)
 |0,0=>some []
 |0,n+1=>match cs with
  |[]=>none
  |c::cs=>match sub cs 0 n with
   |some l=>some (c::l)
   |none=>none
 |off+1,n=>match cs with
  |[]=>none
  |_::cs=>sub cs off n
theorem xV:∀(cs:List AV) (off n:Nat) (l:List AV),sub cs off n=some l→l.length=n∧off+n≤cs.length∧∀j,j<n→l[j]?=cs[off+j]?
 |cs,0,0,l,h=>by simp [sub] at h;subst h;simp
 |[],0,n+1,l,h=>by simp [sub] at h
 |c::cs,0,n+1,l,h=>by
  simp only [sub] at h;cases hs:sub cs 0 n with
  |none=>simp [hs] at h
  |some l'=>
   simp [hs] at h;subst h;obtain⟨h1,h2,h3⟩:=xV cs 0 n l' hs;refine⟨by simp [h1],by simp;omega,fun j hj=>?_⟩;cases j with
   |zero=>simp
   |succ j=>simpa using h3 j (by omega)
 |[],off+1,n,l,h=>by simp [sub] at h
 |c::cs,off+1,n,l,h=>by
  simp only [sub] at h;obtain⟨h1,h2,h3⟩:=xV cs off n l h;refine⟨h1,by simp;omega,fun j hj=>?_⟩;have:=h3 j hj;rw [this,show off+1+j=(off+j)+1 by omega]
  simp
def rd (D:af) (cs:List AV) (off:Nat):Option AV:=
 match D.k.isAgg with
 |true=>match sub cs off D.size with
  |some l=>some (.agg l)
  |none=>none
 |false=>match sub cs off 1 with
  |some [.bot]=>some .bot
  |some [.sc v]=>some (.sc v)
  |some [.b9]=>some .b9
  |some [.sl xs]=>some (.sl xs)
  |some [.vp xs]=>some (.vp xs)
  |some [.ref b i f]=>some (.ref b i f)
  |some [.arr b i f]=>some (.arr b i f)
  |some [.db b i f]=>some (.db b i f)
  |_=>none
theorem Ox {D:af} {cs:List AV} {off:Nat} {v:AV} (hk:D.k.isAgg=false) (h:rd D cs off=some v):cs[off]?=some v:=by
 unfold rd at h;rw [hk] at h;dsimp only at h;cases hs:sub cs off 1 with
 |none=>simp [hs] at h
 |some l=>
  obtain⟨h1,h2,h3⟩:=xV cs off 1 l hs;have Oy:=h3 0 (by omega)
  match l,h1 with
  |[x],_=>
   simp at Oy;rw [hs] at h;rw [←Oy];cases x<;>simp at h<;>simp [h]
theorem Hu {w:World} {R:Nat→Prop} {φ:Ph} {T b o:Nat} {D:af} {cs:List AV} {v:AV} {off:Nat} (hT:aF P T=some D) (hv:rd D cs off=some v)
  (f:Nat→Value) (hc:∀j,j<cs.length→w.cell? ⟨b,o+j,none⟩=some (f j)) (hr:∀(j:Nat) (c:AV),cs[j]?=some c→Rel w R φ c (f j)):
  ∃u,(loadVar T ⟨b,o+off,none⟩).run P w=.ok u w∧Rel w R φ v u:=by
 cases hk:D.k.isAgg with
 |true=>
  unfold rd at hv;rw [hk] at hv;dsimp only at hv;cases hs:sub cs off D.size with
  |none=>simp [hs] at hv
  |some l=>
   simp [hs] at hv;subst hv;obtain⟨h1,h2,h3⟩:=xV cs off D.size l hs
   have hl:=run_loadCells (P:=P) w ⟨b,o+off,none⟩ D.size (fun j=>f (off+j)) (fun j hj=>by
    rw [qP,Nat.add_assoc];exact hc (off+j) (by omega))
   refine⟨.agg ((List.range D.size).map fun j=>f (off+j)).toArray,by simp [loadVar,D4 hT,hk,run_sizeOf hT,hl],.agg (by simp [h1]) fun i c u hi hu=>?_⟩;have cn:i<D.size:=by rw [←h1];exact(List.getElem?_eq_some_iff.1 hi).1
   simp [cn] at hu;subst hu;rw [h3 i cn] at hi;exact hr _ _ hi
 |false=>
  have h1:=Ox hk hv;refine⟨f off,?_,hr off v h1⟩;have:=hc off (List.getElem?_eq_some_iff.1 h1).1;simp [loadVar,D4 hT,hk,this]
theorem aaH {T:Nat} {x:Operand} {D:af} {cs:List AV} {v:AV} (ho:o.op=.load T x) (hT:aF P T=some D) (hx:s.ev x=.vp cs) (hv:rd D cs 0=some v):di P o s ⟨v,[],[],[]⟩:=by
 intro s' _ ca _ _;refine gj fun c φ R a w hs=>?_
 have h1:=hs.ev x;rw [ca x (by simp [ho,Op.operands]),hx] at h1;generalize hq:a.eval x=q at h1;cases h1 with
 |vp f hR hc hr=>
  obtain⟨u,h2,h3⟩:=Hu (off:=0) hT hv f hc hr;refine⟨u,by simp only [Nat.add_zero] at h2;simp [execOp,ho,hq,Instr.loadAt,Instr.sureAddr,h2],h3.mono (fun _ _=>rfl) (fun _ h=>h) (fun b x hb=>by simp [Ph.no] at hb)⟩
theorem Oz {T b i off:Nat} {x:Operand} {D:af} {k:fc} {e v:AV} (ho:o.op=.load T x) (hT:aF P T=some D) (hx:s.ev x=.ref b i off) (hb:lk b s.m=some (some k)) (he:k.xs[i]?=some e) (hv:rd D e.cells off=some v):
  di P o s ⟨v,[],[b],[]⟩:=by
 intro s' _ ca gk _;refine gj fun c φ R a w hs=>?_
 have h1:=hs.ev x;rw [ca x (by simp [ho,Op.operands]),hx] at h1;generalize hq:a.eval x=q at h1;cases h1 with
 |@ref _ _ _ _ h gF=>
  obtain⟨oh,gm,hr⟩:=hs.m.rel b k (by rw [gk b (by simp)];exact hb);rw [gF] at gm;cases gm;obtain⟨_,_,_,_,C,hC,D5,iL⟩:=hr;obtain⟨hl,nS⟩:=iL i e he
  obtain⟨u,h2,h3⟩:=Hu (P:=P) (w:=w) (R:=R) (φ:=φ) (b:=h.cY) (o:=i*h.cy) (off:=off) hT hv (fun j=>C[i*h.cy+j]?.getD undef) (fun j hj=>by
    obtain⟨u,hu,_⟩:=nS j (e.cells[j]) (by simp [hj]);rw [cell_of_row w _ _ C _ _ hC,hu];rfl) (fun j c' Hv=>by
    obtain⟨u,hu,il⟩:=nS j c' Hv;rw [hu];exact il)
  exact⟨u,by simp [execOp,ho,hq,Instr.loadAt,Instr.sureAddr,h2],h3⟩
end
def mw (cs:List AV):Nat→List AV→Option (List AV)
 |0,[]=>some cs
 |0,v::vs=>match cs with
  |[]=>none
  |_::cs=>match mw cs 0 vs with
   |some l=>some (v::l)
   |none=>none
 |off+1,vs=>match cs with
  |[]=>none
  |c::cs=>match mw cs off vs with
   |some l=>some (c::l)
   |none=>none
theorem D6:∀(off:Nat) (cs vs l:List AV),mw cs off vs=some l→l.length=cs.length∧off+vs.length≤cs.length∧∀j:Nat,l[j]?=if off≤j∧j<off+vs.length then vs[j -off]?else cs[j]?
 |0,cs,[],l,h=>by
  simp [mw] at h;subst h;refine⟨rfl,by simp,fun j=>?_⟩;rw [if_neg (by simp)]
 |0,[],v::vs,l,h=>by simp [mw] at h
 |0,c::cs,v::vs,l,h=>by
  simp only [mw] at h;cases hs:mw cs 0 vs with
  |none=>simp [hs] at h
  |some l'=>
   simp [hs] at h;subst h;obtain⟨h1,h2,h3⟩:=D6 0 cs vs l' hs;refine⟨by simp [h1],by simp;omega,fun j=>?_⟩;cases j with
   |zero=>simp
   |succ j=>
    simp only [List.getElem?_cons_succ,h3 j,List.length_cons,Nat.zero_le,true_and,Nat.zero_add,Nat.add_lt_add_iff_right,Nat.sub_zero]
 |off+1,[],vs,l,h=>by simp [mw] at h
 |off+1,c::cs,vs,l,h=>by
  simp only [mw] at h;cases hs:mw cs off vs with
  |none=>simp [hs] at h
  |some l'=>
   simp [hs] at h;subst h;obtain⟨h1,h2,h3⟩:=D6 off cs vs l' hs;refine⟨by simp [h1],by simp;omega,fun j=>?_⟩;cases j with
   |zero=>simp
   |succ j=>
    simp only [List.getElem?_cons_succ,h3 j];by_cases hj:off≤j∧j<off+vs.length
    ·rw [if_pos hj,if_pos (by omega),show j+1 -(off+1)=j -off by omega]
    ·rw [if_neg hj,if_neg (by omega)]
def Hw (off:Nat) (vs:List AV):Option AV:=match off,vs with
 |0,[c]=>some c
 |_,_=>none
def tK (e:AV) (off:Nat) (vs:List AV):Option AV:=
 match e with
 |.agg cs=>match mw cs off vs with
  |some l=>some (.agg l)
  |none=>none
 |_=>Hw off vs
theorem cells_one {c:AV} (h:c.k9=true):c.cells=[c]:=by cases c<;>simp_all [AV.k9,AV.cells]
theorem aaI {e e':AV} {off:Nat} {vs:List AV} (h:tK e off vs=some e') (hc:∀c∈vs,c.k9=true):
  e'.cells.length=e.cells.length∧off+vs.length≤e.cells.length∧∀j:Nat,e'.cells[j]?=if off≤j∧j<off+vs.length then vs[j -off]?else e.cells[j]?:=by
 have one:e.cells=[e]→Hw off vs=some e'→
   e'.cells.length=e.cells.length∧off+vs.length≤e.cells.length∧∀j:Nat,e'.cells[j]?=if off≤j∧j<off+vs.length then vs[j -off]?else e.cells[j]?:=by
  intro he h;unfold Hw at h;split at h
  ·rename_i c;cases h;rw [he,cells_one (hc e' (by simp))];refine⟨rfl,by simp,fun j=>?_⟩;cases j with
   |zero=>simp
   |succ j=>simp
  ·cases h
 cases e with
 |agg cs=>
  simp only [tK] at h;cases hs:mw cs off vs with
  |none=>simp [hs] at h
  |some l=>
   simp [hs] at h;subst h;exact D6 off cs vs l hs
 |_=>exact one rfl h
theorem xW (l vs:List Value) (p:Nat) (h:p+vs.length≤l.length) (q:Nat):
  (l.take p++vs++l.drop (p+vs.length)).toArray[q]?=if p≤q∧q<p+vs.length then vs[q -p]?else l[q]?:=by
 simp only [List.getElem?_toArray];have hp:(l.take p).length=p:=by simp;omega
 by_cases h1:q<p
 ·rw [if_neg (by omega),List.append_assoc,List.getElem?_append_left (by omega),List.getElem?_take,if_pos h1]
 ·by_cases h2:q<p+vs.length
  ·rw [if_pos (by omega),List.append_assoc,List.getElem?_append_right (by omega),hp,List.getElem?_append_left (by omega)]
  ·rw [if_neg (by omega),List.append_assoc,List.getElem?_append_right (by omega),hp,List.getElem?_append_right (by omega),List.getElem?_drop];congr 1;omega
theorem Hx (l vs:List Value) (p:Nat) (h:p+vs.length≤l.length):(l.take p++vs++l.drop (p+vs.length)).toArray.size=l.length:=by
 simp only [List.size_toArray,List.length_append,List.length_take,List.length_drop];omega
theorem aaJ {i i' e j off n:Nat} (eS:i'≠i) (hj:j<e) (hn:off+n≤e):¬(i*e+off≤i'*e+j∧i'*e+j<i*e+off+n):=by
 rcases Nat.lt_or_gt_of_ne eS with h|h
 ·have:=Nat.mul_le_mul_right e (show i'+1≤i from h)
  rw [Nat.add_mul,Nat.one_mul] at this;omega
 ·have:=Nat.mul_le_mul_right e (show i+1≤i' from h)
  rw [Nat.add_mul,Nat.one_mul] at this;omega
theorem tL {i cap e j:Nat} (hi:i<cap) (hj:j<e):i*e+j<cap*e:=by
 have:=Nat.mul_le_mul_right e (show i+1≤cap from hi)
 rw [Nat.add_mul,Nat.one_mul] at this;omega
section
variable{P:Program} {o:Oper} {s:St}
theorem aaK {w:World} {R:Nat→Prop} {φ:Ph} {x:Home} {k:fc} {i off:Nat} {e e':AV} {vs:List AV} {us:List Value} (h:iT w R φ (some x) k) (lC:¬R x.cY) (he:k.xs[i]?=some e)
  (hu:tK e off vs=some e') (hc:∀c∈vs,c.k9=true) (hl:vs.length=us.length) (hr:∀(j:Nat) (c:AV) (u:Value),vs[j]?=some c→us[j]?=some u→Rel w R φ c u):
  ∃C',(storeCells ⟨x.cY,i*x.cy+off,none⟩ us).run P w=.ok () (w.setRow x.cY C')∧iT (w.setRow x.cY C') R φ (some x) {k with xs:=k.xs.set i e'}:=by
 obtain⟨h1,h2,h3,h4,C,hC,hs,iL⟩:=h;obtain⟨u1,u2,u3⟩:=aaI hu hc;obtain⟨hle,nS⟩:=iL i e he;have hi:i<k.xs.length:=(List.getElem?_eq_some_iff.1 he).1
 have kg:i*x.cy+off+us.length≤C.toList.length:=by
  have Hy:C.toList.length=C.size:=by simp
  rw [Hy,hs];have:=Nat.mul_le_mul_right x.cy (show i+1≤x.cap by omega)
  rw [Nat.add_mul,Nat.one_mul] at this;omega
 have h1c:∀v∈us,v.oneCell'=true:=by
  intro v hv;obtain⟨j,hj,D7⟩:=List.mem_iff_getElem.1 hv;have:=hr j (vs[j]'(by omega)) v (by simp [hl,hj]) (by rw [List.getElem?_eq_getElem hj,D7])
  exact this.Hs (hc _ (List.getElem_mem _))
 refine⟨_,run_storeCells_at (P:=P) x.cY (i*x.cy+off) k.ty us 0 C w hC (by simpa using kg) h1c,h1,h2,by simpa using h3,h4,_,setRow_heap w x.cY C _ k.ty _ hC,?_,?_⟩
 ·rw [Nat.add_zero,Hx _ _ _ kg,←hs];simp
 ·intro i' y hy;rw [Nat.add_zero];have hw:∀n,R n→(w.setRow x.cY ((C.toList.take (i*x.cy+off)++us++C.toList.drop (i*x.cy+off+us.length)).toArray)).heap[n]?=w.heap[n]?:=fun n hn=>setRow_other w x.cY n _ (fun e=>lC (e▸hn))
  by_cases Hz:i'=i
  ·subst Hz;have kK:y=e':=by simpa [hi] using hy.symm
   subst kK;refine⟨by rw [u1,hle],fun j c tM=>?_⟩;rw [u3 j] at tM;rw [xW _ _ _ kg];by_cases hj:off≤j∧j<off+vs.length
   ·rw [if_pos hj] at tM;have fk:j -off<us.length:=by omega
    refine⟨us[j -off],?_,(hr (j -off) c us[j -off] tM (by simp [fk])).mono hw (fun _ h=>h) (fun _ _ h=>h)⟩;rw [if_pos (by omega),show i'*x.cy+j -(i'*x.cy+off)=j -off by omega]
    simp [fk]
   ·rw [if_neg hj] at tM;obtain⟨u,pR,il⟩:=nS j c tM;refine⟨u,?_,il.mono hw (fun _ h=>h) (fun _ _ h=>h)⟩;rw [if_neg (by omega),Array.getElem?_toList];exact pR
  ·rw [List.getElem?_set_ne (Ne.symm Hz)] at hy;obtain⟨hly,hcy⟩:=iL i' y hy;refine⟨hly,fun j c tM=>?_⟩;obtain⟨u,pR,il⟩:=hcy j c tM;have fk:j<y.cells.length:=(List.getElem?_eq_some_iff.1 tM).1;refine⟨u,?_,il.mono hw (fun _ h=>h) (fun _ _ h=>h)⟩;rw [xW _ _ _ kg,if_neg (aaJ Hz (by omega) (by omega)),Array.getElem?_toList];exact pR
theorem OA {T b i off:Nat} {x y:Operand} {D:af} {k:fc} {e e' v:AV} (ho:o.op=.store T x y) (hT:aF P T=some D) (hx:s.ev x=.ref b i off) (hb:lk b s.m=some (some k)) (hy:s.ev y=v) (hv:v≠.bot)
  (hl:Nat.beq v.cells.length D.size=true) (hc:v.cells.all AV.k9=true) (he:k.xs[i]?=some e) (hu:tK e off v.cells=some e'):
  di P o s ⟨.cz [],[(b,some {k with xs:=k.xs.set i e'})],[b],[]⟩:=by
 intro s' _ ca gk _;refine aaz fun c φ R a w hs=>?_
 have h1:=hs.ev x;rw [ca x (by simp [ho,Op.operands]),hx] at h1;have h2:=hs.ev y;rw [ca y (by simp [ho,Op.operands]),hy] at h2;generalize hq:a.eval x=q at h1;cases h1 with
 |@ref _ _ _ _ h gF=>
  have ig:lk b s'.m=some (some k):=by rw [gk b (by simp)];exact hb
  obtain⟨oh,gm,hr⟩:=hs.m.rel b k ig;rw [gF] at gm;cases gm;obtain⟨c1,c2⟩:=h2.cells hv;obtain⟨C',gn,fB⟩:=aaK (P:=P) hr (hs.m.ga b k h ig gF) he hu (by simpa using hc) (us:=(a.eval y).cells.toList) (by simpa using c1) (fun j c' u h3 h4=>c2 j c' u h3 (by simpa using h4));have ed:(a.eval y).cells.size=D.size:=by rw [←c1];exact Nat.eq_of_beq_eq_true hl
  refine⟨w.setRow h.cY C',φ,R,by simp [execOp,ho,hq,Instr.storeAt,Instr.sureAddr,storeVar,run_sizeOf hT,ed,gn],?_⟩;exact cW.app (s:=s') (hs.write ig gF C' fB) o.dst (.cz rfl (by simp))
theorem OB {t:Nat} {D:af} {fs:List (Nat×Nat)} (h:aF P t=some D) (hk:D.k=.struct fs):∃F:Array Field,P.underlying t=some (.struct F)∧∀(j fo fz:Nat),fs[j]?=some (fo,fz)→∃f,F[j]?=some f∧f.offset=fo∧P.cellsOf f.type=fz:=by
 obtain⟨i,z,u,_,_,hu,_,_,_,_,fB⟩:=kB h;rw [hk] at fB;cases u<;>simp [kindOf] at fB
 rename_i F;refine⟨F,hu,fun j fo fz hj=>?_⟩;rw [fB,List.getElem?_map] at hj;cases hf:F[j]?with
 |none=>rw [Array.getElem?_toList,hf] at hj;simp at hj
 |some f=>
  rw [Array.getElem?_toList,hf] at hj;simp at hj;exact⟨f,rfl,hj.1,hj.2⟩
theorem aaO {t n:Nat} (h:P.cellsOf t=n) (hn:0<n) (w:World):(sizeOf t).run P w=.ok n w:=by
 unfold Program.cellsOf at h;cases hi:P.info? t with
 |none=>simp [hi] at h;omega
 |some i=>simp [hi] at h;simp [sizeOf,typeInfo,hi,h]
theorem OC {t j fo fz b off:Nat} {D:af} {fs:List (Nat×Nat)} (h:aF P t=some D) (hk:D.k=.struct fs) (hj:fs[j]?=some (fo,fz)) (hz:0<fz) (w:World):
  (Instr.fieldAt t (.pointer (some ⟨b,off,none⟩)) j).run P w=.ok (.pointer (some ⟨b,off+fo,none⟩)) w:=by
 obtain⟨F,hu,hF⟩:=OB h hk;obtain⟨f,hf,rfl,h2⟩:=hF j fo fz hj;have:=aaO h2 hz w;simp [Instr.fieldAt,run_underlying hu,hf,Instr.sureAddr,fieldPlace,this,Nat.ne_of_gt hz,qP]
theorem aaP {t j fo fz b i off:Nat} {x:Operand} {D:af} {fs:List (Nat×Nat)} (ho:o.op=.fieldAddr t x j) (h:aF P t=some D) (hk:D.k=.struct fs) (hj:fs[j]?=some (fo,fz)) (hz:Nat.blt 0 fz=true) (hx:s.ev x=.ref b i off):
  di P o s ⟨.ref b i (off+fo),[],[],[]⟩:=by
 intro s' _ ca _ _;refine gj fun c φ R a w hs=>?_
 have h1:=hs.ev x;rw [ca x (by simp [ho,Op.operands]),hx] at h1;generalize hq:a.eval x=q at h1;cases h1 with
 |@ref _ _ _ _ hm gF=>
  refine⟨.pointer (some ⟨hm.cY,i*hm.cy+off+fo,none⟩),by simp [execOp,ho,hq,OC h hk hj (by simpa using hz)],?_⟩;have:=Rel.ref (w:=w) (R:=R) (i:=i) (off:=off+fo) gF;rwa [←Nat.add_assoc] at this
def kL (cs:List AV):Nat→Option (List AV)
 |0=>some cs
 |n+1=>match cs with
  |[]=>none
  |_::cs=>kL cs n
theorem HA:∀(n:Nat) (cs l:List AV),kL cs n=some l→l=cs.drop n∧n≤cs.length
 |0,cs,l,h=>by simp [kL] at h;subst h;simp
 |n+1,[],l,h=>by simp [kL] at h
 |n+1,c::cs,l,h=>by
  simp only [kL] at h;obtain⟨h1,h2⟩:=HA n cs l h;exact⟨by simpa using h1,by simp;omega⟩
theorem HB {w:World} {R:Nat→Prop} {φ:Ph} {cs l:List AV} {n b off:Nat} (h:Rel w R φ (.vp cs) (.pointer (some ⟨b,off,none⟩))) (hl:kL cs n=some l):Rel w R φ (.vp l) (.pointer (some ⟨b,off+n,none⟩)):=by
 obtain⟨rfl,hn⟩:=HA n cs l hl;cases h with
 |vp f hR hc hr=>
  refine .vp (fun k=>f (n+k)) hR (fun k hk=>?_) (fun j c hj=>hr _ _ (by simpa using hj));rw [Nat.add_assoc];exact hc _ (by simp at hk;omega)
theorem aaQ {t j fo fz:Nat} {x:Operand} {D:af} {fs:List (Nat×Nat)} {cs l:List AV} (ho:o.op=.fieldAddr t x j) (h:aF P t=some D) (hk:D.k=.struct fs) (hj:fs[j]?=some (fo,fz)) (hz:Nat.blt 0 fz=true) (hx:s.ev x=.vp cs) (hl:kL cs fo=some l):
  di P o s ⟨.vp l,[],[],[]⟩:=by
 intro s' _ ca _ _;refine gj fun c φ R a w hs=>?_
 have h1:=hs.ev x;rw [ca x (by simp [ho,Op.operands]),hx] at h1;generalize hq:a.eval x=q at h1;have nT:=h1;cases h1 with
 |@vp _ _ b off f hR hc hr=>
  exact⟨.pointer (some ⟨b,off+fo,none⟩),by simp [execOp,ho,hq,OC h hk hj (by simpa using hz)],HB nT hl⟩
theorem o_ {t e:Nat} {D:af} (h:aF P t=some D) (hk:D.k=.slice e):P.underlying t=some (.slice e):=by
 obtain⟨i,z,u,_,_,hu,_,_,_,_,fB⟩:=kB h;rw [hk] at fB;cases u<;>simp [kindOf] at fB
 subst fB;exact hu
theorem D8 {t n e:Nat} {D:af} (h:aF P t=some D) (hk:D.k=.array n e):P.underlying t=some (.array n e):=by
 obtain⟨i,z,u,_,_,hu,_,_,_,_,fB⟩:=kB h;rw [hk] at fB;cases u<;>simp [kindOf] at fB
 obtain⟨rfl,rfl⟩:=fB;exact hu
theorem run_indexAt_slice {t e a0 o0 len cap:Nat} {D E:af} {k:IntKind} {i:Int} (h:aF P t=some D) (hk:D.k=.slice e) (hE:aF P e=some E) (jd:0≤i) (hi:i<len) (w:World):
  (Instr.indexAt t (.slice (some ⟨a0,o0,none⟩) len cap) (.int k i)).run P w=.ok (.pointer (some ⟨a0,o0+i.toNat*E.size,none⟩)) w:=by
 simp [Instr.indexAt,asIntOf,run_underlying (o_ h hk),run_sizeOf hE,jd,hi,qP]
theorem OD {t e:Nat} {x y:Operand} {D E:af} {k:IntKind} {i:Int} {xs:List AV} {ev:AV} (ho:o.op=.indexAddr t x y) (h:aF P t=some D) (hk:D.k=.slice e) (hE:aF P e=some E) (hx:s.ev x=.sl xs) (hy:s.ev y=.sc (.int k i))
  (jd:0≤i) (he:xs[i.toNat]?=some ev) (hl:Nat.beq ev.cells.length E.size=true):di P o s ⟨.vp ev.cells,[],[],[]⟩:=by
 intro s' _ ca _ _;refine gj fun c φ R a w hs=>?_
 have h1:=hs.ev x;rw [ca x (by simp [ho,Op.operands]),hx] at h1;have h2:=hs.ev y;rw [ca y (by simp [ho,Op.operands]),hy] at h2;have h2:=h2.gN;have cn:i.toNat<xs.length:=(List.getElem?_eq_some_iff.1 he).1;have hi:i<(xs.length:Int):=by omega
 generalize hq:a.eval x=q at h1;cases h1 with
 |jU=>simp at cn
 |@sl _ _ b off cap e' f hep hR lY vh hc hr=>
  have vi:E.size=e':=by rw [←vh _ _ he];exact(Nat.eq_of_beq_eq_true hl).symm
  refine⟨.pointer (some ⟨b,off+i.toNat*E.size,none⟩),by simp [execOp,ho,hq,h2,run_indexAt_slice h hk hE jd hi],?_⟩;refine .vp (fun j=>f (i.toNat*e'+j)) hR (fun j hj=>?_) (fun j c hj=>hr _ _ _ _ he hj);rw [vi,Nat.add_assoc];rw [vh _ _ he] at hj;exact hc _ (tL cn hj)
theorem HC {t e b off len:Nat} {x y:Operand} {D E:af} {k:IntKind} {i:Int} {bk:fc} (ho:o.op=.indexAddr t x y) (h:aF P t=some D) (hk:D.k=.slice e) (hE:aF P e=some E) (hx:s.ev x=.arr b off len) (hy:s.ev y=.sc (.int k i))
  (hb:lk b s.m=some (some bk)) (hz:Nat.beq bk.cy E.size=true) (jd:0≤i) (hi:i<len):di P o s ⟨.ref b (off+i.toNat) 0,[],[b],[]⟩:=by
 intro s' _ ca gk _;refine gj fun c φ R a w hs=>?_
 have h1:=hs.ev x;rw [ca x (by simp [ho,Op.operands]),hx] at h1;have h2:=hs.ev y;rw [ca y (by simp [ho,Op.operands]),hy] at h2;have h2:=h2.gN;generalize hq:a.eval x=q at h1;cases h1 with
 |kA=>omega
 |@arr _ _ _ _ cap hm gF hl hc=>
  obtain⟨oh,gm,hr⟩:=hs.m.rel b bk (by rw [gk b (by simp)];exact hb);rw [gF] at gm;cases gm;obtain⟨jF,_⟩:=hr;have AW:E.size=hm.cy:=by rw [←jF];exact(Nat.eq_of_beq_eq_true hz).symm
  refine⟨.pointer (some ⟨hm.cY,off*hm.cy+i.toNat*E.size,none⟩),by simp [execOp,ho,hq,h2,run_indexAt_slice h hk hE jd hi],?_⟩;have:=Rel.ref (w:=w) (R:=R) (i:=off+i.toNat) (off:=0) gF;rw [Nat.add_mul,Nat.add_zero] at this;rw [AW];exact this
theorem run_indexAt_array {t n e a0 o0:Nat} {D E:af} {k:IntKind} {i:Int} (h:aF P t=some D) (hk:D.k=.array n e) (hE:aF P e=some E) (jd:0≤i) (hi:i<n) (w:World):
  (Instr.indexAt t (.pointer (some ⟨a0,o0,none⟩)) (.int k i)).run P w=.ok (.pointer (some ⟨a0,o0+i.toNat*E.size,none⟩)) w:=by
 simp [Instr.indexAt,asIntOf,run_underlying (D8 h hk),run_sizeOf hE,jd,hi,qP,Instr.sureAddr]
theorem aaR {t n e b j off:Nat} {x y:Operand} {D E:af} {k:IntKind} {i:Int} (ho:o.op=.indexAddr t x y) (h:aF P t=some D) (hk:D.k=.array n e) (hE:aF P e=some E) (hx:s.ev x=.ref b j off) (hy:s.ev y=.sc (.int k i))
  (jd:0≤i) (hi:i<n):di P o s ⟨.ref b j (off+i.toNat*E.size),[],[],[]⟩:=by
 intro s' _ ca _ _;refine gj fun c φ R a w hs=>?_
 have h1:=hs.ev x;rw [ca x (by simp [ho,Op.operands]),hx] at h1;have h2:=hs.ev y;rw [ca y (by simp [ho,Op.operands]),hy] at h2;have h2:=h2.gN;generalize hq:a.eval x=q at h1;cases h1 with
 |@ref _ _ _ _ hm gF=>
  refine⟨.pointer (some ⟨hm.cY,j*hm.cy+off+i.toNat*E.size,none⟩),by simp [execOp,ho,hq,h2,run_indexAt_array h hk hE jd hi],?_⟩;have:=Rel.ref (w:=w) (R:=R) (i:=j) (off:=off+i.toNat*E.size) gF;rwa [←Nat.add_assoc] at this
theorem aaS {t n e:Nat} {x y:Operand} {D E:af} {k:IntKind} {i:Int} {cs l:List AV} (ho:o.op=.indexAddr t x y) (h:aF P t=some D) (hk:D.k=.array n e) (hE:aF P e=some E) (hx:s.ev x=.vp cs) (hy:s.ev y=.sc (.int k i))
  (jd:0≤i) (hi:i<n) (hl:kL cs (i.toNat*E.size)=some l):di P o s ⟨.vp l,[],[],[]⟩:=by
 intro s' _ ca _ _;refine gj fun c φ R a w hs=>?_
 have h1:=hs.ev x;rw [ca x (by simp [ho,Op.operands]),hx] at h1;have h2:=hs.ev y;rw [ca y (by simp [ho,Op.operands]),hy] at h2;have h2:=h2.gN;generalize hq:a.eval x=q at h1;have nT:=h1;cases h1 with
 |@vp _ _ b off f hR hc hr=>
  exact⟨.pointer (some ⟨b,off+i.toNat*E.size,none⟩),by simp [execOp,ho,hq,h2,run_indexAt_array h hk hE jd hi],HB nT hl⟩
end
section
variable{P:Program} {o:Oper} {s:St}
theorem aaT (vs:Array Value) (off:Nat) (cells:Array Value) (h:off+vs.size≤cells.size) (q:Nat):
  (vs.zipIdx.foldl (fun cs (c,j)=>cs.setIfInBounds (off+j) c) cells)[q]?=if off≤q∧q<off+vs.size then vs[q -off]?else cells[q]?:=by
 obtain⟨l⟩:=vs;simp only [List.size_toArray] at h
 have key:∀(l:List Value) (n:Nat) (cells:Array Value),off+n+l.length≤cells.size→
   ((l.zipIdx n).foldl (fun(cs:Array Value) (p:Value×Nat)=>cs.setIfInBounds (off+p.2) p.1) cells)[q]?=if off+n≤q∧q<off+n+l.length then l[q -(off+n)]?else cells[q]?:=by
  intro l
  induction l with
  |nil=>intro n cells _;simp;intro h1 h2;omega
  |cons v l ih=>
   intro n cells hl;simp only [List.length_cons] at hl;simp only [List.zipIdx_cons,List.foldl_cons];rw [ih (n+1) _ (by simp;omega)];by_cases h1:off+(n+1)≤q∧q<off+(n+1)+l.length
   ·rw [if_pos h1,if_pos (by simp;omega),show q -(off+n)=(q -(off+(n+1)))+1 by omega]
    simp
   ·rw [if_neg h1];by_cases h2:q=off+n
    ·subst h2;rw [if_pos (by simp)];simp [show off+n<cells.size by omega]
    ·rw [if_neg (by simp;omega),Array.getElem?_setIfInBounds_ne (by omega)]
 have:=key l 0 cells (by simpa using h);simp only [Nat.add_zero] at this;simp only [List.size_toArray,List.getElem?_toArray];rw [←this];simp
theorem aaU (vs:Array Value) (off:Nat) (cells:Array Value):(vs.zipIdx.foldl (fun cs (c,j)=>cs.setIfInBounds (off+j) c) cells).size=cells.size:=by
 obtain⟨l⟩:=vs
 have key:∀(l:List Value) (n:Nat) (cells:Array Value),((l.zipIdx n).foldl (fun(cs:Array Value) (p:Value×Nat)=>cs.setIfInBounds (off+p.2) p.1) cells).size=cells.size:=by
  intro l
  induction l with
  |nil=>intro n cells;rfl
  |cons v l ih=>intro n cells;simp [List.zipIdx_cons,ih]
 simpa using key l 0 cells
def nf (place:Nat→Option (Nat×Nat)) (cs:List AV):List (Nat×AV)→Option (List AV)
 |[]=>some cs
 |(i,v)::rest=>match place i with
  |none=>none
  |some (off,size)=>match v with
   |.bot=>none
   |v=>match Nat.beq v.cells.length size with
    |false=>none
    |true=>match mw cs off v.cells with
     |none=>none
     |some l=>nf place l rest
theorem D9 {w:World} {R:Nat→Prop} {φ:Ph} {place:Nat→Option (Nat×Nat)}:∀(parts:List (Nat×AV)) (cs l:List AV) (vj:List (Nat×Value)) (cells:Array Value),
  nf place cs parts=some l→parts.length=vj.length→(∀(j:Nat) (p:Nat×AV) (q:Nat×Value),parts[j]?=some p→vj[j]?=some q→p.1=q.1∧Rel w R φ p.2 q.2)→
  cs.length=cells.size→(∀(j:Nat) (c:AV) (u:Value),cs[j]?=some c→cells[j]?=some u→Rel w R φ c u)→
  ∃out,Instr.fill place cells vj=some out∧l.length=out.size∧∀(j:Nat) (c:AV) (u:Value),l[j]?=some c→out[j]?=some u→Rel w R φ c u
 |[],cs,l,vj,cells,h,hl,_,hs,hr=>by
  simp [nf] at h;subst h;cases vj with
  |nil=>exact⟨cells,rfl,hs,hr⟩
  |cons q vs=>simp at hl
 |(i,v)::rest,cs,l,vj,cells,h,hl,hp,hs,hr=>by
  cases vj with
  |nil=>simp at hl
  |cons q vs=>
   obtain⟨i',u⟩:=q;obtain⟨hi,hv⟩:=hp 0 (i,v) (i',u) rfl rfl;dsimp only at hi hv;subst hi;simp only [nf] at h;cases vk:place i with
   |none=>simp [vk] at h
   |some p=>
    obtain⟨off,size⟩:=p;simp only [vk] at h
    have hb:v≠.bot:=by
     intro e;subst e;simp at h
    have h':(match Nat.beq v.cells.length size with
     |false=>none
     |true=>match mw cs off v.cells with
      |none=>none
      |some l=>nf place l rest)=some l:=by
     cases v<;>first|exact absurd rfl hb|exact h
    cases hz:Nat.beq v.cells.length size with
    |false=>simp [hz] at h'
    |true=>
     simp only [hz] at h';cases rU:mw cs off v.cells with
     |none=>simp [rU] at h'
     |some l1=>
      simp only [rU] at h';obtain⟨s1,s2,s3⟩:=D6 off cs v.cells l1 rU;obtain⟨c1,c2⟩:=hv.cells hb;have jv:=Nat.eq_of_beq_eq_true hz
      obtain⟨out,g1,g2,g3⟩:=D9 rest l1 l vs (u.cells.zipIdx.foldl (fun cs (c,j)=>cs.setIfInBounds (off+j) c) cells) h' (by simpa using hl)
       (fun j p q h1 h2=>hp (j+1) p q (by simpa using h1) (by simpa using h2)) (by rw [aaU,s1,hs]) (fun j c u' h1 h2=>by
        rw [s3 j] at h1;rw [aaT _ _ _ (by omega),←c1] at h2;by_cases hj:off≤j∧j<off+v.cells.length
        ·rw [if_pos hj] at h1 h2;exact c2 _ _ _ h1 h2
        ·rw [if_neg hj] at h1 h2;exact hr _ _ _ h1 h2)
      refine⟨out,?_,g2,g3⟩;simp only [Instr.fill,vk];rw [if_neg (by simp;omega)];exact g1
def nU (s:St):List (Nat×Operand)→List (Nat×AV)
 |[]=>[]
 |(i,x)::l=>(i,s.ev x)::nU s l
theorem OE (s:St) (l:List (Nat×Operand)):nU s l=l.map fun p=>(p.1,s.ev p.2):=by
 induction l with
 |nil=>rfl
 |cons p l ih=>obtain⟨i,x⟩:=p;simp [nU,ih]
theorem HE {c:Ctx} {φ:Ph} {R:Nat→Prop} {s':St} {a:Act} {w:World} (hs:cW c φ R s' a w) (parts:Array (Nat×Operand)) (ca:∀p∈parts.toList,s'.ev p.2=s.ev p.2):
  (nU s parts.toList).length=(parts.map fun(i,x)=>(i,a.eval x)).toList.length∧
  ∀(j:Nat) (p:Nat×AV) (q:Nat×Value),(nU s parts.toList)[j]?=some p→(parts.map fun(i,x)=>(i,a.eval x)).toList[j]?=some q→p.1=q.1∧Rel w R φ p.2 q.2:=by
 refine⟨by simp [OE],fun j p q h1 h2=>?_⟩;rw [OE,List.getElem?_map] at h1;rw [Array.getElem?_toList,Array.getElem?_map,←Array.getElem?_toList] at h2;cases hp:parts.toList[j]?with
 |none=>rw [hp] at h1;simp at h1
 |some r=>
  rw [hp] at h1 h2;simp at h1 h2;subst h1;subst h2;refine⟨rfl,?_⟩;have:=hs.ev r.2;rwa [ca r (List.mem_of_getElem? hp)] at this
theorem OF {t:Nat} {parts:Array (Nat×Operand)} (ho:o.op=.build t parts):∀p∈parts.toList,p.2∈o.op.operands.toList:=by
 intro p hp;simp only [ho,Op.operands];simp;exact⟨p.1,by simpa using hp⟩
theorem aaV {t:Nat} {D:af} {fs:List (Nat×Nat)} {parts:List (Nat×Value)} {out:Array Value} (h:aF P t=some D) (hk:D.k=.struct fs) (hz:∀p∈fs,0<p.2) {z:Value} {i:TypeInfo} (hi:P.info? t=some i) (jv:i.zero=some z) (hf:Instr.fill (fun j=>fs[j]?) z.cells parts=some out):P.built t parts=some out:=by
 obtain⟨i',z',u,ng,OG,hu,_,_,_,_,fB⟩:=kB h;rw [hi] at ng;cases ng;rw [jv] at OG;cases OG;rw [hk] at fB;cases u<;>simp [kindOf] at fB
 rename_i F
 have hm:F.toList.mapM (fun f=>(P.info? f.type).map fun i=>(f.offset,i.size))=some fs:=by
  subst fB
  have:∀(l:List Field),(∀p∈l.map (fun f=>(f.offset,P.cellsOf f.type)),0<p.2)→l.mapM (fun f=>(P.info? f.type).map fun i=>(f.offset,i.size))=some (l.map fun f=>(f.offset,P.cellsOf f.type)):=by
   intro l
   induction l with
   |nil=>simp
   |cons f l ih=>
    intro hz;have h1:=hz (f.offset,P.cellsOf f.type) (by simp);have h2:=ih (fun p hp=>hz p (by simp at hp⊢;right;exact hp));simp only [List.mapM_cons,h2];unfold Program.cellsOf at h1⊢;cases hf:P.info? f.type with
    |none=>simp [hf] at h1
    |some j=>simp [hf]
  exact this F.toList hz
 unfold Program.built;simp only [hi,hu,jv,hm];simpa using hf
def D_ (fs:List (Nat×Nat)):Bool:=fs.all fun p=>Nat.blt 0 p.2
theorem aaW {t:Nat} {parts:Array (Nat×Operand)} {D:af} {fs:List (Nat×Nat)} {l:List AV} (ho:o.op=.build t parts) (h:aF P t=some D) (hk:D.k=.struct fs) (hz:D_ fs=true) (hl:nf (fun j=>fs[j]?) D.zero.cells (nU s parts.toList)=some l):
  di P o s ⟨.agg l,[],[],[]⟩:=by
 intro s' _ ca _ _;refine gj fun c φ R a w hs=>?_
 obtain⟨i,z,u,hi,jv,_,ed,_,hzero,jc,_⟩:=kB h;obtain⟨p1,p2⟩:=HE hs parts (s:=s) (fun p hp=>ca _ (OF ho p hp));have hc:=xU w R φ z;rw [hzero] at hl;obtain⟨out,g1,g2,g3⟩:=D9 (w:=w) (R:=R) (φ:=φ) (nU s parts.toList) _ l (parts.map fun(i,x)=>(i,a.eval x)).toList z.cells hl p1 p2 hc.1 hc.2;have hb:=run_build (P:=P) w t (parts.map fun(i,x)=>(i,a.eval x)) out (aaV h hk (by simpa [D_] using hz) hi jv g1);exact⟨.agg out,by simp [execOp,ho,hb],.agg g2 g3⟩
theorem aaX {t n e:Nat} {parts:Array (Nat×Operand)} {D E:af} {l:List AV} (ho:o.op=.build t parts) (h:aF P t=some D) (hk:D.k=.array n e) (hE:aF P e=some E) (hl:nf (fun j=>some (j*E.size,E.size)) D.zero.cells (nU s parts.toList)=some l):
  di P o s ⟨.agg l,[],[],[]⟩:=by
 intro s' _ ca _ _;refine gj fun c φ R a w hs=>?_
 obtain⟨i,z,u,hi,jv,_,ed,_,hzero,jc,_⟩:=kB h;obtain⟨ie,ze,ue,hie,_,_,aaZ,_⟩:=kB hE;obtain⟨p1,p2⟩:=HE hs parts (s:=s) (fun p hp=>ca _ (OF ho p hp));have hc:=xU w R φ z;rw [hzero] at hl;obtain⟨out,g1,g2,g3⟩:=D9 (w:=w) (R:=R) (φ:=φ) (nU s parts.toList) _ l (parts.map fun(i,x)=>(i,a.eval x)).toList z.cells hl p1 p2 hc.1 hc.2
 have hbt:P.built t (parts.map fun(i,x)=>(i,a.eval x)).toList=some out:=by
  unfold Program.built;simp only [hi,D8 h hk,jv,hie];rw [aaZ];exact g1
 have hb:=run_build (P:=P) w t (parts.map fun(i,x)=>(i,a.eval x)) out hbt;exact⟨.agg out,by simp [execOp,ho,hb],.agg g2 g3⟩
theorem OH {w:World} {R:Nat→Prop} {φ:Ph} {T off:Nat} {D:af} {cs:List AV} {vs:Array Value} {v:AV} (hT:aF P T=some D) (hl:cs.length=vs.size) (hr:∀(i:Nat) (c:AV) (u:Value),cs[i]?=some c→vs[i]?=some u→Rel w R φ c u) (hv:rd D cs off=some v):
  ∃u,(part T vs off).run P w=.ok u w∧Rel w R φ v u:=by
 cases hk:D.k.isAgg with
 |true=>
  unfold rd at hv;rw [hk] at hv;dsimp only at hv;cases hs:sub cs off D.size with
  |none=>simp [hs] at hv
  |some l=>
   simp [hs] at hv;subst hv;obtain⟨h1,h2,h3⟩:=xV cs off D.size l hs;refine⟨.agg (vs.extract off (off+D.size)),by simp [part,D4 hT,hk,run_sizeOf hT],.agg (by simp [h1];omega) fun i c u hi hu=>?_⟩;have cn:i<D.size:=by rw [←h1];exact(List.getElem?_eq_some_iff.1 hi).1
   rw [h3 i cn] at hi;rw [Array.getElem?_extract] at hu;split at hu
   ·exact hr _ _ _ hi hu
   ·cases hu
 |false=>
  have h1:=Ox hk hv;have cn:off<vs.size:=by rw [←hl];exact(List.getElem?_eq_some_iff.1 h1).1
  exact⟨vs[off],by simp [part,D4 hT,hk,cn],hr off v vs[off] h1 (by simp [cn])⟩
theorem aa1 {t j fo fz ft:Nat} {x:Operand} {D F:af} {fs:List (Nat×Nat)} {cs:List AV} {v:AV} (ho:o.op=.field t x j) (h:aF P t=some D) (hk:D.k=.struct fs) (hj:fs[j]?=some (fo,fz)) (hft:∀f:Array Field,P.underlying t=some (.struct f)→(f[j]?).map (·.type)=some ft) (hF:aF P ft=some F) (hx:s.ev x=.agg cs) (hv:rd F cs fo=some v):
  di P o s ⟨v,[],[],[]⟩:=by
 intro s' _ ca _ _;refine gj fun c φ R a w hs=>?_
 have h1:=hs.ev x;rw [ca x (by simp [ho,Op.operands]),hx] at h1;generalize hq:a.eval x=q at h1;cases h1 with
 |@agg _ _ vs hl hr=>
  obtain⟨Fs,hu,hF'⟩:=OB h hk;obtain⟨f,hf,rfl,h2⟩:=hF' j fo fz hj;have:=hft Fs hu;rw [hf] at this;simp at this;subst this;obtain⟨u,D',vl⟩:=OH hF hl hr hv;exact⟨u,by simp [execOp,ho,hq,Instr.field,run_underlying hu,hf,asAgg,D'],vl⟩
theorem aa4 {x:Operand} {i:Nat} {cs:List AV} {v:AV} (ho:o.op=.extract x i) (hx:s.ev x=.cz cs) (hv:cs[i]?=some v):di P o s ⟨v,[],[],[]⟩:=by
 intro s' _ ca _ _;refine gj fun c φ R a w hs=>?_
 have h1:=hs.ev x;rw [ca x (by simp [ho,Op.operands]),hx] at h1;generalize hq:a.eval x=q at h1;cases h1 with
 |@cz _ _ vs hl hr=>
  have cn:i<vs.size:=by rw [←hl];exact(List.getElem?_eq_some_iff.1 hv).1
  exact⟨vs[i],by simp [execOp,ho,hq,Instr.extract,cn],hr i v vs[i] hv (by simp [cn])⟩
theorem OI {t n e:Nat} {x y:Operand} {D E:af} {k:IntKind} {i:Int} {cs:List AV} {v:AV} (ho:o.op=.index t x y) (h:aF P t=some D) (hk:D.k=.array n e) (hE:aF P e=some E) (hx:s.ev x=.agg cs) (hy:s.ev y=.sc (.int k i)) (jd:0≤i) (hi:i<n) (hv:rd E cs (i.toNat*E.size)=some v):
  di P o s ⟨v,[],[],[]⟩:=by
 intro s' _ ca _ _;refine gj fun c φ R a w hs=>?_
 have h1:=hs.ev x;rw [ca x (by simp [ho,Op.operands]),hx] at h1;have h2:=hs.ev y;rw [ca y (by simp [ho,Op.operands]),hy] at h2;have h2:=h2.gN;generalize hq:a.eval x=q at h1;cases h1 with
 |@agg _ _ vs hl hr=>
  obtain⟨u,D',vl⟩:=OH hE hl hr hv;exact⟨u,by simp [execOp,ho,hq,h2,Instr.index,asIntOf,run_underlying (D8 h hk),jd,hi,run_sizeOf hE,D'],vl⟩
theorem aa5 {t:Nat} {x y:Operand} {D:af} {k:IntKind} {i:Int} {st:ByteArray} {u:UInt8} (ho:o.op=.index t x y) (h:aF P t=some D) (hk:D.k=.str) (hx:s.ev x=.sc (.string st)) (hy:s.ev y=.sc (.int k i)) (jd:0≤i) (hu:st[i.toNat]?=some u):
  di P o s ⟨.sc (.int .u8 u.toNat),[],[],[]⟩:=by
 intro s' _ ca _ _;refine gj fun c φ R a w hs=>?_
 have h1:=hs.ev x;rw [ca x (by simp [ho,Op.operands]),hx] at h1;have h1:=h1.gN;have h2:=hs.ev y;rw [ca y (by simp [ho,Op.operands]),hy] at h2;have h2:=h2.gN;obtain⟨_,_,ud,_,_,lD,_,_,_,_,fB⟩:=kB h;rw [hk] at fB;have:ud=.string:=by cases ud<;>simp [kindOf] at fB<;>rfl
 subst this;exact⟨_,by simp [execOp,ho,h1,h2,Instr.index,asIntOf,run_underlying lD,jd,hu],.sc rfl⟩
theorem tN {op:BinOp} {t ty:Nat} {x y:Operand} {v1 v2 v:Value} (ho:o.op=.binOp op t x y ty) (hx:s.ev x=.sc v1) (hy:s.ev y=.sc v2) (hg:∀w,(eqGuard op t x y v1 v2).run P w=.ok () w) (hr:∀w,(binOp op t v1 v2).run P w=.ok v w) (hf:flat v=true):
  di P o s ⟨.sc v,[],[],[]⟩:=by
 intro s' _ ca _ _;refine gj fun c φ R a w hs=>?_
 have h1:=hs.ev x;rw [ca x (by simp [ho,Op.operands]),hx] at h1;have h1:=h1.gN;have h2:=hs.ev y;rw [ca y (by simp [ho,Op.operands]),hy] at h2;have h2:=h2.gN;exact⟨v,by simp [execOp,ho,h1,h2,hg,hr],.sc hf⟩
theorem AX (op:BinOp) (t:Nat) (x y:Operand) (k k':IntKind) (a b:Int) (w:World):(eqGuard op t x y (.int k a) (.int k' b)).run P w=.ok () w:=by cases op<;>rfl
theorem aa6 (op:BinOp) (t:Nat) (x y:Operand) (a b:ByteArray) (w:World):(eqGuard op t x y (.string a) (.string b)).run P w=.ok () w:=by cases op<;>rfl
theorem aa7 (op:BinOp) (t:Nat) (x y:Operand) (a b:Bool) (w:World):(eqGuard op t x y (.bool a) (.bool b)).run P w=.ok () w:=by cases op<;>rfl
def Ea (op:BinOp) (k:IntKind) (a b:Int):Option Value:=
 match op with
 |.add=>some (.int k (k.wrap (a+b)))
 |.sub=>some (.int k (k.wrap (a -b)))
 |.mul=>some (.int k (k.wrap (a*b)))
 |.eql=>some (.bool (a==b))
 |.neq=>some (.bool (a !=b))
 |.lss=>some (.bool (decide (a<b)))
 |.leq=>some (.bool (decide (a≤b)))
 |.gtr=>some (.bool (decide (b<a)))
 |.geq=>some (.bool (decide (b≤a)))
 |.and=>some (.int k (k.wrap (BitVec.ofInt k.bits a&&&BitVec.ofInt k.bits b).toNat))
 |.or=>some (.int k (k.wrap (BitVec.ofInt k.bits a|||BitVec.ofInt k.bits b).toNat))
 |.xor=>some (.int k (k.wrap (BitVec.ofInt k.bits a^^^BitVec.ofInt k.bits b).toNat))
 |_=>none
theorem aa8 {op:BinOp} {t ty:Nat} {x y:Operand} {k:IntKind} {a b:Int} {v:Value} (ho:o.op=.binOp op t x y ty) (hx:s.ev x=.sc (.int k a)) (hy:s.ev y=.sc (.int k b)) (hv:Ea op k a b=some v):di P o s ⟨.sc v,[],[],[]⟩:=by
 refine tN ho hx hy (AX op t x y k k a b) (fun w=>?_) ?_
 ·cases op<;>simp [Ea] at hv<;>subst hv<;>simp [binOp,Op.intArith,Op.intCmp,Op.intBits]<;>first|rfl|(constructor<;>intro h<;>exact h)
 ·cases op<;>simp [Ea] at hv<;>subst hv<;>rfl
theorem OJ {t ty:Nat} {x y:Operand} {k:IntKind} {a b:Int} (ho:o.op=.binOp .quo t x y ty) (hx:s.ev x=.sc (.int k a)) (hy:s.ev y=.sc (.int k b)) (hb:b≠0):di P o s ⟨.sc (.int k (k.wrap (a.tdiv b))),[],[],[]⟩:=
 tN ho hx hy (AX _ t x y k k a b) (fun w=>by simp [binOp,Op.intDiv,hb]) rfl
theorem OK {t ty:Nat} {x y:Operand} {k:IntKind} {a b:Int} (ho:o.op=.binOp .rem t x y ty) (hx:s.ev x=.sc (.int k a)) (hy:s.ev y=.sc (.int k b)) (hb:b≠0):di P o s ⟨.sc (.int k (a.tmod b)),[],[],[]⟩:=
 tN ho hx hy (AX _ t x y k k a b) (fun w=>by simp [binOp,Op.intDiv,hb]) rfl
theorem aa9 {t ty:Nat} {x y:Operand} {k k':IntKind} {a b:Int} (ho:o.op=.binOp .shl t x y ty) (hx:s.ev x=.sc (.int k a)) (hy:s.ev y=.sc (.int k' b)) (hb:0≤b):di P o s ⟨.sc (.int k (k.wrap (a*2^(min b.toNat k.bits)))),[],[],[]⟩:=
 tN ho hx hy (AX _ t x y k k' a b) (fun w=>by simp [binOp,Op.shift,Int.not_lt.2 hb]) rfl
theorem aa_ {t ty:Nat} {x y:Operand} {k k':IntKind} {a b:Int} (ho:o.op=.binOp .shr t x y ty) (hx:s.ev x=.sc (.int k a)) (hy:s.ev y=.sc (.int k' b)) (hb:0≤b):di P o s ⟨.sc (.int k (a.fdiv (2^(min b.toNat k.bits)))),[],[],[]⟩:=
 tN ho hx hy (AX _ t x y k k' a b) (fun w=>by simp [binOp,Op.shift,Int.not_lt.2 hb]) rfl
def AY (op:BinOp) (a b:ByteArray):Option Value:=
 match op with
 |.eql=>some (.bool (a.toList==b.toList))
 |.neq=>some (.bool (!(a.toList==b.toList)))
 |.lss=>some (.bool (Op.bytesLess a.toList b.toList))
 |_=>none
theorem OL {op:BinOp} {t ty:Nat} {x y:Operand} {a b:ByteArray} {v:Value} (ho:o.op=.binOp op t x y ty) (hx:s.ev x=.sc (.string a)) (hy:s.ev y=.sc (.string b)) (hv:AY op a b=some v):di P o s ⟨.sc v,[],[],[]⟩:=by
 refine tN ho hx hy (aa6 op t x y a b) (fun w=>?_) ?_
 ·cases op<;>simp [AY] at hv<;>subst hv<;>simp [binOp,Op.stringOp]
 ·cases op<;>simp [AY] at hv<;>subst hv<;>rfl
theorem HF {t ty:Nat} {x y:Operand} {a b:Bool} {D:af} (ho:o.op=.binOp .eql t x y ty) (h:aF P t=some D) (hk:D.k=.bool) (hx:s.ev x=.sc (.bool a)) (hy:s.ev y=.sc (.bool b)):di P o s ⟨.sc (.bool (a==b)),[],[],[]⟩:=by
 obtain⟨_,_,ud,_,_,lD,_,_,_,_,fB⟩:=kB h;rw [hk] at fB;have:ud=.bool:=by cases ud<;>simp [kindOf] at fB<;>rfl
 subst this;exact tN ho hx hy (aa7 _ t x y a b) (fun w=>by simp [binOp,Op.equal,Op.maxDepth,run_equalIn_bool w 9999 t a b lD]) rfl
theorem aa' {op:UnOp} {t:Nat} {x:Operand} {v1 v:Value} (ho:o.op=.unOp op t x) (hx:s.ev x=.sc v1) (hr:∀w,(Op.unary op v1).run P w=.ok v w) (hf:flat v=true):di P o s ⟨.sc v,[],[],[]⟩:=by
 intro s' _ ca _ _;refine gj fun c φ R a w hs=>?_
 have h1:=hs.ev x;rw [ca x (by simp [ho,Op.operands]),hx] at h1;have h1:=h1.gN;exact⟨v,by simp [execOp,ho,h1,hr],.sc hf⟩
def Eb (op:UnOp) (v:Value):Option Value:=
 match op,v with
 |.not,.bool b=>some (.bool (!b))
 |.neg,.int k n=>some (.int k (k.wrap (0 -n)))
 |.xor,.int k n=>some (.int k (k.wrap (BitVec.ofInt k.bits (if k.signed then-1 else k.max)^^^BitVec.ofInt k.bits n).toNat))
 |_,_=>none
theorem aba {op:UnOp} {t:Nat} {x:Operand} {v1 v:Value} (ho:o.op=.unOp op t x) (hx:s.ev x=.sc v1) (hv:Eb op v1=some v):di P o s ⟨.sc v,[],[],[]⟩:=by
 refine aa' ho hx (fun w=>?_) ?_
 ·cases op<;>cases v1<;>simp [Eb] at hv<;>subst hv<;>simp [Op.unary,Op.intArith,Op.intBits]
 ·cases op<;>cases v1<;>simp [Eb] at hv<;>subst hv<;>rfl
theorem HG {t:Nat} {k:IntKind} {D:af} (h:aF P t=some D) (hk:D.k=.int k):P.underlying t=some (.int k):=by
 obtain⟨_,_,ud,_,_,lD,_,_,_,_,fB⟩:=kB h;rw [hk] at fB;cases ud<;>simp [kindOf] at fB
 subst fB;exact lD
theorem abb {t1 t2:Nat} {x:Operand} {k1 k2 k:IntKind} {D1 D2:af} {n:Int} (ho:o.op=.convert t1 t2 x) (h1:aF P t1=some D1) (h2:aF P t2=some D2) (tO:D1.k=.int k1) (kh:D2.k=.int k2) (hx:s.ev x=.sc (.int k n)):di P o s ⟨.sc (.int k2 (k2.wrap n)),[],[],[]⟩:=by
 intro s' _ ca _ _;refine gj fun c φ R a w hs=>?_
 have nT:=hs.ev x;rw [ca x (by simp [ho,Op.operands]),hx] at nT;have nT:=nT.gN;exact⟨_,by simp [execOp,ho,nT,convert,run_underlying (HG h1 tO),run_underlying (HG h2 kh),Conv.intToInt],.sc rfl⟩
end
section
variable{P:Program} {o:Oper} {s:St}
def lZ (b:Builtin) (args:Array Operand) (gO:Array TypeId):Op:=.call {callee:=.builtin b,args:=args,argTypes:=gO}
theorem vm {b:Builtin} {args:Array Operand} {gO:Array TypeId} (ho:o.op=lZ b args gO) (a:Act) (w:World):
  (execOp a.eval o).run P w=(builtin b gO o.type (args.map fun|.const _=>true|_=>false) (args.map a.eval)).run P w:=by
 simp [execOp,ho,lZ,resolve,invoke];rfl
theorem rV {b:Builtin} {args:Array Operand} {gO:Array TypeId} (ho:o.op=lZ b args gO):∀x∈args.toList,x∈o.op.operands.toList:=by
 intro x hx;simpa [ho,lZ,Op.operands,Call.operands] using hx
theorem abc {t:Nat} {D:af} (h:aF P t=some D) (hk:D.k=.str):P.underlying t=some .string:=by
 obtain⟨_,_,ud,_,_,lD,_,_,_,_,fB⟩:=kB h;rw [hk] at fB;have:ud=.string:=by cases ud<;>simp [kindOf] at fB<;>rfl
 subst this;exact lD
def AZ:AV→Option Nat
 |.sl xs=>some xs.length
 |.arr _ _ n=>some n
 |.b9=>some 0
 |_=>none
theorem Rel.len {w:World} {R:Nat→Prop} {φ:Ph} {a:AV} {v:Value} {n:Nat} (h:Rel w R φ a v) (hn:AZ a=some n):∃ad cap,v=.slice ad n cap:=by
 cases h<;>simp [AZ] at hn<;>subst hn
 ·exact⟨_,_,rfl⟩
 ·exact⟨_,_,rfl⟩
 ·exact⟨_,_,rfl⟩
 ·exact⟨_,_,rfl⟩
 ·exact⟨_,_,rfl⟩
theorem abd {t e:Nat} {x:Operand} {D:af} {v:AV} {n:Nat} (ho:o.op=lZ .len #[x] #[t]) (h:aF P t=some D) (hk:D.k=.slice e) (hx:s.ev x=v) (hn:AZ v=some n):di P o s ⟨.sc (.int .i64 n),[],[],[]⟩:=by
 intro s' _ ca _ _;refine gj fun c φ R a w hs=>?_
 have h1:=hs.ev x;rw [ca x (rV ho x (by simp)),hx] at h1;obtain⟨ad,cap,hv⟩:=h1.len hn;exact⟨.int .i64 n,by simp [vm ho,builtin,Builtin.len_,hv,run_underlying (o_ h hk),goInt],.sc rfl⟩
theorem abe {t:Nat} {x:Operand} {D:af} {st:ByteArray} (ho:o.op=lZ .len #[x] #[t]) (h:aF P t=some D) (hk:D.k=.str) (hx:s.ev x=.sc (.string st)):di P o s ⟨.sc (.int .i64 st.size),[],[],[]⟩:=by
 intro s' _ ca _ _;refine gj fun c φ R a w hs=>?_
 have h1:=hs.ev x;rw [ca x (rV ho x (by simp)),hx] at h1;have h1:=h1.gN;exact⟨.int .i64 st.size,by simp [vm ho,builtin,Builtin.len_,h1,run_underlying (abc h hk),goInt],.sc rfl⟩
theorem abf {t n e:Nat} {x:Operand} {D:af} (ho:o.op=lZ .len #[x] #[t]) (h:aF P t=some D) (hk:D.k=.array n e):di P o s ⟨.sc (.int .i64 n),[],[],[]⟩:=by
 intro s' _ ca _ _;refine gj fun c φ R a w hs=>?_
 exact⟨.int .i64 n,by simp [vm ho,builtin,Builtin.len_,run_underlying (D8 h hk),goInt],.sc rfl⟩
theorem abg {t:Array TypeId} {x y:Operand} {k:IntKind} {m n:Int} (ho:o.op=lZ .max #[x,y] t) (hx:s.ev x=.sc (.int k m)) (hy:s.ev y=.sc (.int k n)):di P o s ⟨.sc (.int k (max m n)),[],[],[]⟩:=by
 intro s' _ ca _ _;refine gj fun c φ R a w hs=>?_
 have h1:=hs.ev x;rw [ca x (rV ho x (by simp)),hx] at h1;have h1:=h1.gN;have h2:=hs.ev y;rw [ca y (rV ho y (by simp)),hy] at h2;have h2:=h2.gN;have e:(if n>m then n else m)=max m n:=by split<;>omega
 exact⟨.int k (max m n),by simp [vm ho,builtin,Builtin.max_,Builtin.max2,h1,h2,←e],.sc rfl⟩
theorem abh {t:Array TypeId} {x y:Operand} {k:IntKind} {m n:Int} (ho:o.op=lZ .min #[x,y] t) (hx:s.ev x=.sc (.int k m)) (hy:s.ev y=.sc (.int k n)):di P o s ⟨.sc (.int k (min m n)),[],[],[]⟩:=by
 intro s' _ ca _ _;refine gj fun c φ R a w hs=>?_
 have h1:=hs.ev x;rw [ca x (rV ho x (by simp)),hx] at h1;have h1:=h1.gN;have h2:=hs.ev y;rw [ca y (rV ho y (by simp)),hy] at h2;have h2:=h2.gN;have e:(if n<m then n else m)=min m n:=by split<;>omega
 exact⟨.int k (min m n),by simp [vm ho,builtin,Builtin.min_,Builtin.min2,h1,h2,←e],.sc rfl⟩
theorem abi {f:Nat} {fs cs:Array Operand} {l1 l2:List AV} (ho:o.op=.makeFunc (.func f) fs cs) (h1:fs.toList.map s.ev=l1) (h2:cs.toList.map s.ev=l2):di P o s ⟨.db f l1 l2,[],[],[]⟩:=by
 intro s' _ ca _ _;refine gj fun c φ R a w hs=>⟨.func (.func f) (fs.map a.eval) (cs.map a.eval),by simp [execOp,ho,Instr.makeFunc],?_⟩
 subst h1;subst h2;refine .db (by simp) (by simp) (fun i c v hc hv=>?_) (fun i c v hc hv=>?_)
 ·simp only [List.getElem?_map,Array.getElem?_toList,Array.getElem?_map] at hc hv;cases hq:fs[i]?with
  |none=>simp [hq] at hc
  |some x=>
   simp [hq] at hc hv;subst hc;subst hv;have:=hs.ev x;rwa [ca x (by simp [ho,Op.operands];exact .inl (Array.mem_of_getElem? hq))] at this
 ·simp only [List.getElem?_map,Array.getElem?_toList,Array.getElem?_map] at hc hv;cases hq:cs[i]?with
  |none=>simp [hq] at hc
  |some x=>
   simp [hq] at hc hv;subst hc;subst hv;have:=hs.ev x;rwa [ca x (by simp [ho,Op.operands];exact .inr (Array.mem_of_getElem? hq))] at this
theorem cW.Ec {c:Ctx} {φ:Ph} {R:Nat→Prop} {a:Act} {w w':World} (h:cW c φ R s a w) (d:Nat) (gY:Fr s d) {T n cap:Nat} {C:Array Value} {xs:List AV} (hw:∃k,w'={w.alloc (.cells C T) with drawn:=k}∧w.drawn≤k) (hn:0<n) (hC:C.size=cap*n) (lY:xs.length≤cap) (abj:cap≤maxLen)
  (hr:∀(i:Nat) (x:AV),xs[i]?=some x→x.cells.length=n∧∀(j:Nat) (c:AV),x.cells[j]?=some c→∃u,C[i*n+j]?=some u∧Rel w R φ c u):
  cW c (φ.up d (some ⟨w.heap.size,n,cap⟩)) R {s with m:=(d,some ⟨T,n,xs⟩)::s.m} a w'∧∀len,len≤cap→Rel w' R (φ.up d (some ⟨w.heap.size,n,cap⟩)) (.arr d 0 len) (.slice (some ⟨w.heap.size,0,none⟩) len cap):=by
 obtain⟨kd,rfl,A0⟩:=hw
 have ve:φ d=none:=by
  cases hq:φ d with
  |none=>rfl
  |some y=>obtain⟨z,hz⟩:=h.gM d y hq;rw [gY.1] at hz;cases hz
 have hold:∀i,i<w.heap.size→({w.alloc (.cells C T) with drawn:=kd}:World).heap[i]?=w.heap[i]?:=fun i hi=>heap_alloc_old w _ i hi
 refine⟨h.add d gY ⟨T,n,xs⟩ ⟨w.heap.size,n,cap⟩ ⟨rfl,rfl,rfl,A0,by simp,fun i hi _=>hold i hi⟩ (Nat.le_refl _) ?_,fun len hl=>?_⟩
 ·refine⟨rfl,hn,lY,abj,C,heap_alloc_new w _,hC,fun i x hx=>⟨(hr i x hx).1,fun j c hj=>?_⟩⟩;obtain⟨u,hu,il⟩:=(hr i x hx).2 j c hj;exact⟨u,hu,il.mono (fun n hn=>hold n (h.Rb n hn)) (fun _ h=>h) (Ph.AU _ ve)⟩
 ·have:=Rel.arr (w:={w.alloc (.cells C T) with drawn:=kd}) (R:=R) (φ:=φ.up d (some ⟨w.heap.size,n,cap⟩)) (b:=d) (off:=0) (len:=len) (cap:=cap) (h:=⟨w.heap.size,n,cap⟩) (by simp [Ph.up]) hl (by simp);simpa using this
theorem HH (zero:Array Value) (n sz:Nat) (hz:zero.size=sz) (i j:Nat) (hi:i<n) (hj:j<sz):((Array.range (n*sz)).map (zero[·%zero.size]!))[i*sz+j]?=zero[j]?:=by
 have h1:i*sz+j<n*sz:=tL hi hj;have h2:(i*sz+j)%sz=j:=by rw [Nat.add_comm,Nat.add_mul_mod_self_right,Nat.mod_eq_of_lt hj]
 simp [h1,hz,h2,hj]
theorem OM {t e d:Nat} {x y:Operand} {D E:af} {k:IntKind} {n:Int} (ho:o.op=.makeSlice t x y) (h:aF P t=some D) (hk:D.k=.slice e) (hE:aF P e=some E) (hx:s.ev x=.sc (.int k n)) (hy:s.ev y=.sc (.int k n)) (hz:Nat.blt 0 E.size=true)
  (Ed:0≤n) (hn:n≤9223372036854775807) (hb:n*E.bytes≤281474976710656):di P o s ⟨.arr d 0 n.toNat,[(d,some ⟨e,E.size,List.replicate n.toNat E.zero⟩)],[],[d]⟩:=by
 intro s' _ ca _ jE;refine tJ fun c φ R a w hs=>?_
 have h1:=hs.ev x;rw [ca x (by simp [ho,Op.operands]),hx] at h1;have h1:=h1.gN;have h2:=hs.ev y;rw [ca y (by simp [ho,Op.operands]),hy] at h2;have h2:=h2.gN;obtain⟨i,z,u,hi,jv,_,ed,A1,hzero,jc,_⟩:=kB hE;have nh:0<E.size:=by simpa using hz
 obtain⟨N,rfl⟩:=Int.eq_ofNat_of_zero_le Ed
 have hw:IntKind.i64.wrap (N:Int)=N:=by
  simp [IntKind.wrap,IntKind.signed,IntKind.bits];omega
 have ON:¬((E.bytes:Int)*(N:Int)>281474976710656):=by rw [Int.mul_comm];omega
 have gn:(Instr.makeSlice t (.int k (N:Int)) (.int k (N:Int))).run P w=.ok (.slice (some ⟨w.heap.size,0,none⟩) N N) (w.alloc (.cells ((Array.range (N*E.size)).map (z.cells[·%z.cells.size]!)) e)):=by
  simp only [Instr.makeSlice,Sem.run_bind,run_underlying (o_ h hk),Result.andThen_ok,asInt,asIntOf,Sem.run_pure,typeInfo,run_program,hi,A1,hw];have abk:(decide ((N:Int)<0)||decide ((E.bytes:Int)*(N:Int)>2^48))=false:=by simp;omega
  simp only [abk,Bool.false_or];have h0:((decide ((N:Int)<0))||decide ((N:Int)>(N:Int)))=false:=by simp
  simp only [h0];simp [run_sizeOf hE];by_cases hN:N=0
  ·subst hN;have e0:Array.range 0=#[]:=rfl;simp [newRow,e0]
  ·have:N*E.size≠0:=Nat.mul_ne_zero hN (by omega);simp [zeroValue,typeInfo,hi,jv,newRow];intro h0;exact absurd h0 this
 have hc:=xU w R φ z
 obtain⟨g1,g2⟩:=hs.Ec d (jE d (by simp)) (T:=e) (n:=E.size) (cap:=N) (C:=(Array.range (N*E.size)).map (z.cells[·%z.cells.size]!)) (xs:=List.replicate N E.zero) ⟨w.drawn,rfl,Nat.le_refl _⟩ nh (by simp) (by simp) (by simp only [maxLen];omega) (fun i x hx=>by
  obtain⟨HI,rfl⟩:i<N∧x=E.zero:=by
   rw [List.getElem?_replicate] at hx;split at hx
   ·exact⟨‹_›,by simpa using hx.symm⟩
   ·cases hx
  rw [hzero];refine⟨by rw [hc.1,jc],fun j c' hj=>?_⟩;have fk:j<E.size:=by rw [←jc,←hc.1];exact(List.getElem?_eq_some_iff.1 hj).1
  refine⟨z.cells[j]'(by omega),?_,hc.2 j c' _ hj (by simp [jc,fk])⟩
  rw [HH z.cells N E.size jc i j HI fk];simp [jc,fk])
 refine⟨.slice (some ⟨w.heap.size,0,none⟩) N N,w.alloc (.cells ((Array.range (N*E.size)).map (z.cells[·%z.cells.size]!)) e),φ.up d (some ⟨w.heap.size,E.size,N⟩),R,by simp [execOp,ho,h1,h2,gn],?_⟩;exact cW.app g1 o.dst (by simpa using g2 N (Nat.le_refl _))
end
section
variable{P:Program} {o:Oper} {s:St}
def group (agg:Bool) (sz:Nat):Nat→List AV→Option (List AV)
 |0,[]=>some []
 |0,_::_=>none
 |n+1,l=>match sub l 0 sz with
  |none=>none
  |some cs=>match kL l sz with
   |none=>none
   |some rest=>match group agg sz n rest with
    |none=>none
    |some xs=>match agg with
     |true=>some (.agg cs::xs)
     |false=>match cs with
      |[.agg _]=>none
      |[c]=>some (c::xs)
      |_=>none
theorem OO {agg:Bool} {sz:Nat}:∀(n:Nat) (l xs:List AV),group agg sz n l=some xs→xs.length=n∧l.length=n*sz∧∀(i:Nat) (x:AV),xs[i]?=some x→x.cells.length=sz∧∀(j:Nat) (c:AV),x.cells[j]?=some c→l[i*sz+j]?=some c
 |0,[],xs,h=>by simp [group] at h;subst h;simp
 |0,_::_,xs,h=>by simp [group] at h
 |n+1,l,xs,h=>by
  simp only [group] at h;cases h1:sub l 0 sz with
  |none=>simp [h1] at h
  |some cs=>
   cases h2:kL l sz with
   |none=>simp [h1,h2] at h
   |some rest=>
    cases h3:group agg sz n rest with
    |none=>simp [h1,h2,h3] at h
    |some ys=>
     simp only [h1,h2,h3] at h;obtain⟨s1,s2,s3⟩:=xV l 0 sz cs h1;obtain⟨rfl,d2⟩:=HA sz l rest h2;obtain⟨g1,g2,g3⟩:=OO n _ ys h3
     have key:∃x,xs=x::ys∧x.cells=cs:=by
      cases agg with
      |true=>simp at h;exact⟨.agg cs,h.symm,rfl⟩
      |false=>
       dsimp only at h
       match cs,h with
       |[.bot],h=>cases h;exact⟨_,rfl,rfl⟩
       |[.sc _],h=>cases h;exact⟨_,rfl,rfl⟩
       |[.b9],h=>cases h;exact⟨_,rfl,rfl⟩
       |[.cz _],h=>cases h;exact⟨_,rfl,rfl⟩
       |[.sl _],h=>cases h;exact⟨_,rfl,rfl⟩
       |[.vp _],h=>cases h;exact⟨_,rfl,rfl⟩
       |[.ref _ _ _],h=>cases h;exact⟨_,rfl,rfl⟩
       |[.arr _ _ _],h=>cases h;exact⟨_,rfl,rfl⟩
       |[.db _ _ _],h=>cases h;exact⟨_,rfl,rfl⟩
       |[.jb _ _ _],h=>cases h;exact⟨_,rfl,rfl⟩
       |[.ju _],h=>cases h;exact⟨_,rfl,rfl⟩
       |[.agg _],h=>cases h
       |[],h=>cases h
       |_::_::_,h=>simp at h
     obtain⟨x,rfl,hx⟩:=key;simp only [List.length_drop] at g2;refine⟨by simp [g1],by rw [Nat.add_mul,Nat.one_mul];omega,fun i y hy=>?_⟩;cases i with
     |zero=>
      simp at hy;subst hy;rw [hx];refine⟨s1,fun j c hj=>?_⟩;have fk:j<sz:=by rw [←s1];exact(List.getElem?_eq_some_iff.1 hj).1
      rw [s3 j fk] at hj;simpa using hj
     |succ i=>
      simp at hy;obtain⟨q1,q2⟩:=g3 i y hy;refine⟨q1,fun j c hj=>?_⟩;have:=q2 j c hj;rw [List.getElem?_drop] at this;rw [←this];congr 1;rw [Nat.add_mul,Nat.one_mul];omega
def qQ (z:List AV):Nat→List AV
 |0=>[]
 |n+1=>z++qQ z n
theorem OP (z:List AV):∀n,(qQ z n).length=n*z.length∧∀i j,i<n→j<z.length→(qQ z n)[i*z.length+j]?=z[j]?
 |0=>⟨by simp [qQ],fun i j hi=>by omega⟩
 |n+1=>by
  obtain⟨h1,h2⟩:=OP z n;refine⟨by simp only [qQ,List.length_append,h1,Nat.add_mul,Nat.one_mul];omega,fun i j hi hj=>?_⟩;cases i with
  |zero=>simp only [qQ,Nat.zero_mul,Nat.zero_add];rw [List.getElem?_append_left hj]
  |succ i=>
   simp only [qQ];have:(i+1)*z.length+j=z.length+(i*z.length+j):=by rw [Nat.add_mul,Nat.one_mul];omega
   rw [this,List.getElem?_append_right (by omega),show z.length+(i*z.length+j) -z.length=i*z.length+j by omega]
   exact h2 i j (by omega) hj
theorem abl {t e d len:Nat} {parts:Array (Nat×Operand)} {D E:af} {l xs:List AV} (ho:o.op=.buildSlice t len parts) (h:aF P t=some D) (hk:D.k=.slice e) (hE:aF P e=some E) (hz:Nat.blt 0 E.size=true) (nV:Nat.ble (len*E.size) 16777216=true)
  (hl:nf (fun j=>some (j*E.size,E.size)) (qQ E.zero.cells len) (nU s parts.toList)=some l) (hg:group E.k.isAgg E.size len l=some xs):
  di P o s ⟨.arr d 0 len,[(d,some ⟨e,E.size,xs⟩)],[],[d]⟩:=by
 intro s' _ ca _ jE;refine tJ fun c φ R a w hs=>?_
 have nh:0<E.size:=by simpa using hz
 have asf:len*E.size≤16777216:=Nat.le_of_ble_eq_true nV;obtain⟨i,z,u,hi,jv,_,ed,A1,hzero,jc,_⟩:=kB hE
 have gG:∀p∈parts.toList,p.2∈o.op.operands.toList:=by
  intro p hp;simp only [ho,Op.operands];simp;exact⟨p.1,by simpa using hp⟩
 obtain⟨p1,p2⟩:=HE hs parts (s:=s) (fun p hp=>ca _ (gG p hp));have hc:=xU w R φ z;rw [hzero] at hl;obtain⟨q1,q2⟩:=OP (o9 z).cells len;have Ee:(o9 z).cells.length=E.size:=by rw [hc.1,jc]
 obtain⟨out,g1,g2,g3⟩:=D9 (w:=w) (R:=R) (φ:=φ) (nU s parts.toList) _ l (parts.map fun(i,x)=>(i,a.eval x)).toList ((Array.range (len*E.size)).map (z.cells[·%z.cells.size]!)) hl p1 p2 (by simp [q1,Ee]) (fun j c' u' h1 h2=>by
  have fk:j<len*E.size:=by rw [←Ee,←q1];exact(List.getElem?_eq_some_iff.1 h1).1
  have e1:j=(j/E.size)*E.size+j%E.size:=by rw [Nat.mul_comm];exact(Nat.div_add_mod j E.size).symm
  have e2:j/E.size<len:=Nat.div_lt_of_lt_mul (by rwa [Nat.mul_comm] at fk);have e3:j%E.size<E.size:=Nat.mod_lt _ nh;rw [e1] at h1 h2;rw [HH z.cells len E.size jc _ _ e2 e3] at h2;have:=q2 (j/E.size) (j%E.size) e2 (by rw [Ee];exact e3);rw [Ee] at this;rw [this] at h1;exact hc.2 _ _ _ h1 h2)
 obtain⟨r1,r2,r3⟩:=OO len l xs hg
 have gn:(Instr.buildSlice t len (parts.map fun(i,x)=>(i,a.eval x))).run P w=.ok (.slice (some ⟨w.heap.size,0,none⟩) len len) (w.alloc (.cells out e)):=by
  have vn:¬(len*E.size>16777216):=by omega
  simp only [Instr.buildSlice,Sem.run_bind,run_underlying (o_ h hk),Result.andThen_ok,run_sizeOf hE];by_cases tP:len*E.size=0
  ·have hlen:len=0:=by
    rcases Nat.mul_eq_zero.1 tP with h|h
    ·exact h
    ·omega
   subst hlen;have e0:Array.range 0=#[]:=rfl;have OQ:Instr.fill (fun j=>some (j*E.size,E.size)) #[] (parts.map fun(i,x)=>(i,a.eval x)).toList=some out:=by simpa [e0] using g1
   simp [e0,newRow];rw [show(parts.map fun(x:Nat×Operand)=>(x.1,a.eval x.2)).toList=(parts.map fun(i,x)=>(i,a.eval x)).toList from rfl] at*
   simp at OQ;rw [OQ];simp
  ·simp [tP,vn,zeroValue,typeInfo,hi,jv,newRow];simp at g1;rw [g1];simp
 obtain⟨n1,n2⟩:=hs.Ec d (jE d (by simp)) (T:=e) (n:=E.size) (cap:=len) (C:=out) (xs:=xs) ⟨w.drawn,rfl,Nat.le_refl _⟩ nh (by rw [←g2,r2]) (by omega) (by
   simp only [maxLen];have:=Nat.le_mul_of_pos_right len nh;omega) (fun i x hx=>by
  obtain⟨t1,t2⟩:=r3 i x hx;refine⟨t1,fun j c' hj=>?_⟩;have h3:=t2 j c' hj;have cn:i*E.size+j<out.size:=by rw [←g2];exact(List.getElem?_eq_some_iff.1 h3).1
  exact⟨out[i*E.size+j],by simp [cn],g3 _ _ _ h3 (by simp [cn])⟩)
 refine⟨.slice (some ⟨w.heap.size,0,none⟩) len len,w.alloc (.cells out e),φ.up d (some ⟨w.heap.size,E.size,len⟩),R,by simp [execOp,ho];simp at gn;rw [gn];simp,?_⟩;exact cW.app n1 o.dst (n2 len (Nat.le_refl _))
end
section
variable{P:Program} {o:Oper} {s:St}
structure A2 (w:World) (R:Nat→Prop) (φ:Ph) (sz:Nat) (ys:List AV) (v:Value):Prop where
 some:ys≠[]→∃(ad:Addr) (cap:Nat) (news:List Value),v=.slice (some ad) ys.length cap∧news.length=ys.length*sz∧(∀(j:Nat) (u:Value),news[j]?=some u→w.cell? (ad.add j)=some u)∧
  ∀(i:Nat) (x:AV),ys[i]?=some x→x.cells.length=sz∧∀(j:Nat) (c:AV),x.cells[j]?=some c→∃u,news[i*sz+j]?=some u∧Rel w R φ c u
 none:ys=[]→∃(ad:Option Addr) (cap:Nat),v=.slice ad 0 cap
theorem abm {w:World} {R:Nat→Prop} {φ:Ph} {sz:Nat} {ys:List AV} {v:Value} (h:Rel w R φ (.sl ys) v) (hz:∀x∈ys,x.cells.length=sz):A2 w R φ sz ys v:=by
 cases h with
 |jU=>exact⟨fun h=>absurd rfl h,fun _=>⟨_,_,rfl⟩⟩
 |@sl _ _ b off cap e f he hR lY hl hc hr=>
  refine⟨fun eS=>?_,fun h=>⟨_,_,by rw [h];rfl⟩⟩
  have hee:e=sz:=by
   obtain⟨y,hy⟩:=List.exists_mem_of_ne_nil _ eS;obtain⟨i,hi,rfl⟩:=List.mem_iff_getElem.1 hy;rw [←hl i ys[i] (by simp [hi])];exact hz _ hy
  subst hee;refine⟨⟨b,off,none⟩,cap,(List.range (ys.length*e)).map f,rfl,by simp,fun j u hj=>?_,fun i x hx=>⟨hl i x hx,fun j c hj=>?_⟩⟩
  ·rw [List.getElem?_map] at hj;cases hq:(List.range (ys.length*e))[j]?with
   |none=>simp [hq] at hj
   |some q=>
    have cn:j<ys.length*e:=by
     have:=(List.getElem?_eq_some_iff.1 hq).1;simpa using this
    simp [cn] at hq;subst hq;simp [cn] at hj;subst hj;rw [qP];exact hc j cn
  ·have cn:i*e+j<ys.length*e:=tL (List.getElem?_eq_some_iff.1 hx).1 (by rw [←hl i x hx];exact(List.getElem?_eq_some_iff.1 hj).1);exact⟨f (i*e+j),by simp [cn],(hr i x j c hx hj).mono (fun _ _=>rfl) (fun _ h=>h) (fun b x hb=>by simp [Ph.no] at hb)⟩
theorem abo {c:Ctx} {φ:Ph} {R:Nat→Prop} {a:Act} {w:World} (hs:cW c φ R s a w) {b off len sz:Nat} {k:fc} {v:Value} (h:Rel w R φ (.arr b off len) v) (hb:lk b s.m=some (some k)) (hz:k.cy=sz) (hl:off+len≤k.xs.length):A2 w R φ sz ((k.xs.drop off).take len) v:=by
 have hlen:((k.xs.drop off).take len).length=len:=by simp;omega
 cases h with
 |kA=>exact⟨fun h=>absurd (by simp) h,fun _=>⟨_,_,rfl⟩⟩
 |@arr _ _ _ _ cap hm gF lE hc=>
  refine⟨fun eS=>?_,fun h=>⟨some ⟨hm.cY,off*hm.cy,none⟩,cap,by rw [h] at hlen;simp at hlen;subst hlen;rfl⟩⟩;obtain⟨oh,gm,hr⟩:=hs.m.rel b k hb;rw [gF] at gm;cases gm;obtain⟨h1,h2,h3,_,C,hC,D5,iL⟩:=hr;have e1:hm.cy=sz:=by rw [←h1,hz]
  rw [e1] at D5 iL h2
  have kg:(off+len)*sz≤C.size:=by
   rw [D5];exact Nat.mul_le_mul_right _ (by omega)
  refine⟨⟨hm.cY,off*hm.cy,none⟩,cap,(C.toList.drop (off*sz)).take (len*sz),by rw [hlen],?_,fun j u hj=>?_,fun i x hx=>?_⟩
  ·rw [hlen];simp;rw [Nat.add_mul] at kg;omega
  ·rw [qP,cell_of_row w _ _ C _ _ hC,e1];rw [List.getElem?_take] at hj;split at hj
   ·rw [List.getElem?_drop,Array.getElem?_toList] at hj;exact hj
   ·cases hj
  ·rw [List.getElem?_take] at hx;split at hx
   ·rename_i hi;rw [List.getElem?_drop] at hx;obtain⟨q1,q2⟩:=iL (off+i) x hx;refine⟨q1,fun j c hj=>?_⟩;obtain⟨u,hu,il⟩:=q2 j c hj;refine⟨u,?_,il⟩;rw [List.getElem?_take,if_pos (tL hi (by rw [←q1];exact(List.getElem?_eq_some_iff.1 hj).1)),List.getElem?_drop,Array.getElem?_toList,←hu];congr 1;rw [Nat.add_mul];omega
   ·cases hx
theorem abp {w:World} {R:Nat→Prop} {φ:Ph} {sz:Nat} {v:Value} (h:Rel w R φ .b9 v):A2 w R φ sz [] v:=by
 cases h;exact⟨fun h=>absurd rfl h,fun _=>⟨_,_,rfl⟩⟩
theorem OR {t ty e:Nat} {E D:af} (h:aF P t=some D) (hk:D.k=.slice e) (hE:aF P e=some E) (base:Option Addr) (n cap:Nat) (hn:n≤cap) (ad:Option Addr) (c:Nat) (w:World):
  (Builtin.append_ #[t,t] ty #[.slice base n cap,.slice ad 0 c]).run P w=.ok (.slice base n cap) w:=by
 cases base<;>cases ad<;>simp [Builtin.append_,run_underlying (o_ h hk),run_sizeOf hE,Builtin.lenOf,hn,Builtin.firstCells,loadCells,loadCellsFrom,storeCells]
theorem cW.rename {c:Ctx} {φ:Ph} {R:Nat→Prop} {a:Act} {w:World} (h:cW c φ R s a w) {b d:Nat} {k:fc} {oh:Option Home} (hb:lk b s.m=some (some k)) (hx:φ b=some oh) (gY:Fr s d):
  cW c (φ.up d oh) R {s with m:=(d,some k)::(b,none)::s.m} a w:=by
 obtain⟨hd,pP⟩:=gY;have Ef:d≠b:=by rintro rfl;rw [hb] at hd;cases hd
 have ve:φ d=none:=by
  cases hq:φ d with
  |none=>rfl
  |some y=>obtain⟨z,hz⟩:=h.gM d y hq;rw [hd] at hz;cases hz
 have xT:=Ph.AU (φ:=φ) (d:=d) oh ve;have pQ:φ.up d oh d=some oh:=by simp [Ph.up]
 have iK:∀q,q≠d→φ.up d oh q=φ q:=fun q hq=>by simp [Ph.up,hq]
 have f:∀q kk,lk q ((d,some k)::(b,none)::s.m)=some (some kk)→(q=d∧kk=k)∨(q≠d∧q≠b∧lk q s.m=some (some kk)):=by
  intro q kk hq;rw [eo] at hq;by_cases e:q=d
  ·rw [if_pos e] at hq;cases hq;exact .inl ⟨e,rfl⟩
  ·rw [if_neg e,eo] at hq;by_cases e':q=b
   ·rw [if_pos e'] at hq;cases hq
   ·rw [if_neg e'] at hq;exact .inr ⟨e,e',hq⟩
 refine⟨h.n,fun t av ht=>(h.t t av ht).mono (fun _ _=>rfl) (fun _ h=>h) xT,⟨?_,?_,?_,h.m.gl⟩,?_,?_,h.R0,h.Rn,h.Rb,h.ext,h.d,fun q hq=>by rw [iK q (by omega)];exact h.gi q hq⟩
 ·intro q kk hq;rcases f q kk hq with⟨rfl,rfl⟩|⟨e1,e2,e3⟩
  ·obtain⟨OS,gm,hr⟩:=h.m.rel b kk hb;rw [hx] at gm;cases gm;exact⟨oh,pQ,hr.mono (fun _ _=>rfl) (fun _ _=>rfl) xT⟩
  ·obtain⟨OS,gm,hr⟩:=h.m.rel q kk e3;exact⟨OS,by rw [iK q e1];exact gm,hr.mono (fun _ _=>rfl) (fun _ _=>rfl) xT⟩
 ·intro q q' k1 k2 y y' hq mx hy kK heq;rcases f q k1 hq with⟨rfl,rfl⟩|⟨e1,e2,e3⟩<;>rcases f q' k2 mx with⟨rfl,rfl⟩|⟨OT,OU,OV⟩
  ·rfl
  ·exfalso;rw [pQ] at hy;cases hy;rw [iK _ OT] at kK;exact OU (h.m.inj q' b k2 k1 y' y OV hb kK hx heq.symm)
  ·exfalso;rw [pQ] at kK;cases kK;rw [iK _ e1] at hy;exact e2 (h.m.inj q b k1 k2 y y' e3 hb hy hx heq)
  ·rw [iK _ e1] at hy;rw [iK _ OT] at kK;exact h.m.inj q q' k1 k2 y y' e3 OV hy kK heq
 ·intro q k1 y hq hy;rcases f q k1 hq with⟨rfl,rfl⟩|⟨e1,e2,e3⟩
  ·rw [pQ] at hy;cases hy;exact h.m.ga b k1 y hb hx
  ·rw [iK _ e1] at hy;exact h.m.ga q k1 y e3 hy
 ·intro q y hy;rw [eo];by_cases e:q=d
  ·rw [if_pos e];exact⟨_,rfl⟩
  ·rw [if_neg e,eo];by_cases e':q=b
   ·rw [if_pos e'];exact⟨_,rfl⟩
   ·rw [if_neg e'];rw [iK _ e] at hy;exact h.gM q y hy
 ·intro q k1 y hq hy;rcases f q k1 hq with⟨rfl,rfl⟩|⟨e1,e2,e3⟩
  ·rw [pQ] at hy;cases hy;exact h.fresh b k1 y hb hx
  ·rw [iK _ e1] at hy;exact h.fresh q k1 y e3 hy
theorem OW {w:World} {R:Nat→Prop} {φ:Ph} {sz n:Nat} {xs ys:List AV} {C C':Array Value} {news:List Value} (hn:n≤xs.length)
  (hold:∀(i:Nat) (x:AV),xs[i]?=some x→x.cells.length=sz∧∀(j:Nat) (c:AV),x.cells[j]?=some c→∃u,C[i*sz+j]?=some u∧Rel w R φ c u)
  (tQ:∀(i:Nat) (x:AV),ys[i]?=some x→x.cells.length=sz∧∀(j:Nat) (c:AV),x.cells[j]?=some c→∃u,news[i*sz+j]?=some u∧Rel w R φ c u)
  (h1:∀q,q<n*sz→C'[q]?=C[q]?) (h2:∀q,q<news.length→C'[n*sz+q]?=news[q]?):
  ∀(i:Nat) (x:AV),(xs.take n++ys)[i]?=some x→x.cells.length=sz∧∀(j:Nat) (c:AV),x.cells[j]?=some c→∃u,C'[i*sz+j]?=some u∧Rel w R φ c u:=by
 intro i x hx;have hl:(xs.take n).length=n:=by simp;omega
 by_cases hi:i<n
 ·rw [List.getElem?_append_left (by omega),List.getElem?_take,if_pos hi] at hx;obtain⟨q1,q2⟩:=hold i x hx;refine⟨q1,fun j c hj=>?_⟩;obtain⟨u,hu,hr⟩:=q2 j c hj;refine⟨u,?_,hr⟩;rw [h1 _ (tL hi (by rw [←q1];exact(List.getElem?_eq_some_iff.1 hj).1))];exact hu
 ·rw [List.getElem?_append_right (by omega),hl] at hx;obtain⟨q1,q2⟩:=tQ (i -n) x hx;refine⟨q1,fun j c hj=>?_⟩;obtain⟨u,hu,hr⟩:=q2 j c hj;refine⟨u,?_,hr⟩
  have e:i*sz+j=n*sz+((i -n)*sz+j):=by
   have:i*sz=n*sz+(i -n)*sz:=by rw [←Nat.add_mul];congr 1;omega
   omega
  rw [e,h2 _ (List.getElem?_eq_some_iff.1 hu).1];exact hu
theorem abq {w:World} {R:Nat→Prop} {φ:Ph} {sz:Nat} {ys:List AV} {news:List Value} (ed:0<sz) (hl:news.length=ys.length*sz) (hc:ys.all (fun x=>x.cells.all AV.k9)=true)
  (tQ:∀(i:Nat) (x:AV),ys[i]?=some x→x.cells.length=sz∧∀(j:Nat) (c:AV),x.cells[j]?=some c→∃u,news[i*sz+j]?=some u∧Rel w R φ c u):∀u∈news,u.oneCell'=true:=by
 intro u hu;obtain⟨q,hq,rfl⟩:=List.mem_iff_getElem.1 hu;have e1:q=(q/sz)*sz+q%sz:=by rw [Nat.mul_comm];exact(Nat.div_add_mod q sz).symm
 have e2:q/sz<ys.length:=Nat.div_lt_of_lt_mul (by rw [hl] at hq;rwa [Nat.mul_comm] at hq);have e3:q%sz<sz:=Nat.mod_lt _ ed;obtain⟨q1,q2⟩:=tQ (q/sz) (ys[q/sz]) (by simp [e2]);obtain⟨u',pR,hr⟩:=q2 (q%sz) ((ys[q/sz]).cells[q%sz]'(by omega)) (by simp [q1,e3])
 rw [←e1] at pR;have:u'=news[q]:=by rw [List.getElem?_eq_getElem hq] at pR;cases pR;rfl
 subst this;refine hr.Hs ?_;rw [List.all_eq_true] at hc;have:=hc _ (List.getElem_mem e2);rw [List.all_eq_true] at this;exact this _ (List.getElem_mem _)
theorem OX (z:Array Value) (n:Nat):(Builtin.zeroCells z n).size=n*z.size:=by simp [Builtin.zeroCells]
theorem abr (A3 news:List Value) (zs:Array Value):(∀q,q<A3.length→(A3.toArray++news.toArray++zs)[q]?=A3[q]?)∧∀q,q<news.length→(A3.toArray++news.toArray++zs)[A3.length+q]?=news[q]?:=by
 refine⟨fun q hq=>?_,fun q hq=>?_⟩
 ·rw [Array.getElem?_append_left (by simp;omega),Array.getElem?_append_left (by simpa using hq)];simp
 ·rw [Array.getElem?_append_left (by simp;omega),Array.getElem?_append_right (by simp)];simp
theorem abt {c:Ctx} {φ:Ph} {R:Nat→Prop} {a:Act} {w:World} {t ty e d b n:Nat} {D E:af} {k:fc} {ys:List AV} {v1 v2:Value} (hs:cW c φ R s a w) (h:aF P t=some D) (hk:D.k=.slice e) (hE:aF P e=some E) (hz:0<E.size)
  (h1:Rel w R φ (.arr b 0 n) v1) (hb:lk b s.m=some (some k)) (vo:k.ty=e) (jF:k.cy=E.size) (hn:n≤k.xs.length) (h2:A2 w R φ E.size ys v2) (hc:ys.all (fun x=>x.cells.all AV.k9)=true)
  (gY:Fr s d) (nV:(n+ys.length)*E.bytes≤140737488355328) (hlen:n+ys.length≤maxLen):
  ∃v w' φ',(Builtin.append_ #[t,t] ty #[v1,v2]).run P w=.ok v w'∧cW c φ' R {s with m:=(d,some ⟨e,E.size,k.xs.take n++ys⟩)::(b,none)::s.m} a w'∧Rel w' R φ' (.arr d 0 (n+ys.length)) v:=by
 obtain⟨i,z,u,hi,jv,_,ed,A1,hzero,jc,_⟩:=kB hE;obtain⟨oh,nW,nX⟩:=hs.m.rel b k hb;obtain⟨hd,pP⟩:=gY
 have A4:∃gH,cW c gH R {s with m:=(d,some ⟨e,E.size,k.xs.take n⟩)::(b,none)::s.m} a w∧gH=φ.up d oh:=by
  have hw:cW c φ R {s with m:=(b,some ⟨e,E.size,k.xs.take n⟩)::s.m} a w:=by
   have f:∀b1 k1,lk b1 ((b,some (⟨e,E.size,k.xs.take n⟩:fc))::s.m)=some (some k1)→∃k0,lk b1 s.m=some (some k0):=by
    intro b1 k1 h1;rw [eo] at h1;split at h1
    ·subst_vars;exact⟨k,hb⟩
    ·exact⟨k1,h1⟩
   refine⟨hs.n,hs.t,⟨?_,?_,?_,hs.m.gl⟩,?_,?_,hs.R0,hs.Rn,hs.Rb,hs.ext,hs.d,hs.gi⟩
   ·intro b1 k1 g1;rw [eo] at g1;split at g1
    ·subst_vars;cases g1;refine⟨oh,nW,?_⟩;cases oh with
     |none=>simp only [iT] at nX⊢;simp [nX]
     |some x=>
      obtain⟨r1,r2,r3,r4,C,r5,r6,r7⟩:=nX;refine⟨by rw [←r1,jF],r2,by simp;omega,r4,C,r5,r6,fun i x hx=>?_⟩;dsimp only at hx;rw [List.getElem?_take] at hx;split at hx
      ·exact r7 i x hx
      ·cases hx
    ·exact hs.m.rel b1 k1 g1
   ·intro b1 b2 k1 k2 y1 y2 g1 g2 e1 e2 heq;obtain⟨q1,f1⟩:=f b1 k1 g1;obtain⟨q2,f2⟩:=f b2 k2 g2;exact hs.m.inj b1 b2 q1 q2 y1 y2 f1 f2 e1 e2 heq
   ·intro b1 k1 y g1 e1;obtain⟨q1,f1⟩:=f b1 k1 g1;exact hs.m.ga b1 q1 y f1 e1
   ·intro b1 y hy;obtain⟨q,hq⟩:=hs.gM b1 y hy;rw [eo];split
    ·exact⟨_,rfl⟩
    ·exact⟨q,hq⟩
   ·intro b1 k1 y g1 e1;obtain⟨q1,f1⟩:=f b1 k1 g1;exact hs.fresh b1 q1 y f1 e1
  have Ef:d≠b:=by rintro rfl;rw [hb] at hd;cases hd
  have:=hw.rename (b:=b) (d:=d) (k:=⟨e,E.size,k.xs.take n⟩) (oh:=oh) (by simp [Hr]) nW ⟨by simp [D0 _ _ Ef,hd],pP⟩;refine⟨_,⟨this.n,this.t,?_,?_,?_,this.R0,this.Rn,this.Rb,this.ext,this.d,this.gi⟩,rfl⟩
  ·have hm:=this.m
   have eqv:∀q,lk q ((d,some (⟨e,E.size,k.xs.take n⟩:fc))::(b,none)::s.m)=lk q ((d,some (⟨e,E.size,k.xs.take n⟩:fc))::(b,none)::(b,some (⟨e,E.size,k.xs.take n⟩:fc))::s.m):=by
    intro q;simp only [eo];repeat' split
    all_goals rfl
   exact⟨fun b1 k1 g1=>hm.rel b1 k1 (by rw [←eqv];exact g1),fun b1 b2 k1 k2 y1 y2 g1 g2=>hm.inj b1 b2 k1 k2 y1 y2 (by rw [←eqv];exact g1) (by rw [←eqv];exact g2),fun b1 k1 y g1=>hm.ga b1 k1 y (by rw [←eqv];exact g1),hm.gl⟩
  ·intro q y hy;obtain⟨r,hr⟩:=this.gM q y hy;refine⟨r,?_⟩;rw [←hr];simp only [eo];repeat' split
   all_goals rfl
  ·intro q k1 y g1 e1;refine this.fresh q k1 y ?_ e1;rw [←g1];simp only [eo];repeat' split
   all_goals rfl
 obtain⟨gH,jG,rfl⟩:=A4;by_cases HJ:ys=[]
 ·
  subst HJ;obtain⟨ad,xX,rfl⟩:=h2.none rfl;simp only [List.append_nil,List.length_nil,Nat.add_zero] at*
  cases h1 with
  |kA xY=>
   rw [xY] at nW;cases nW;exact⟨_,w,_,OR h hk hE none 0 0 (Nat.le_refl _) ad xX w,jG,.kA (by simp [Ph.up])⟩
  |@arr _ _ _ _ cap hm gF lE tR=>
   rw [gF] at nW;cases nW;have hr:=Rel.arr (w:=w) (R:=R) (φ:=φ.up d (some hm)) (b:=d) (off:=0) (len:=n) (cap:=cap) (h:=hm) (by simp [Ph.up]) lE tR;exact⟨_,w,_,OR h hk hE _ n cap lE ad xX w,jG,hr⟩
 ·obtain⟨ad,xX,news,rfl,pb,HK,tQ⟩:=h2.some HJ;have hm0:0<ys.length:=List.length_pos_iff.2 HJ;have HL:=abq hz pb hc tQ;have OY:cW c φ R {s with m:=(b,none)::s.m} a w:=hs.kill b;have Ef:d≠b:=by rintro rfl;rw [hb] at hd;cases hd
  have rW:lk d ((b,none)::s.m)=none:=by rw [D0 _ _ Ef];exact hd
  have OZ:(n+ys.length)*i.bytes≤140737488355328:=by rw [A1];exact nV
  have O0:((n+ys.length:Nat):Int)≤9223372036854775807:=by simp only [maxLen] at hlen;omega
  cases h1 with
  |kA xY=>
   rw [xY] at nW;cases nW;simp only [iT] at nX;have gn:=run_append_nil (P:=P) w t ty e i z (o_ h hk) hi jv ad ys.length xX news (by rw [ed];exact pb) HK hm0 (by simpa using O0) (by simp at OZ;omega);have tS:=grownCap_ge w ys.length 0 e;have hle:=grownCap_le_maxLen w ys.length 0 e (by simpa using hlen)
   obtain⟨n1,n2⟩:=OY.Ec d ⟨rW,pP⟩ (w':=w.drew.alloc (.cells (news.toArray++Builtin.zeroCells z.cells (grownCap w ys.length 0 e -ys.length)) e)) (T:=e) (n:=E.size) (cap:=grownCap w ys.length 0 e) (C:=news.toArray++Builtin.zeroCells z.cells (grownCap w ys.length 0 e -ys.length)) (xs:=k.xs.take 0++ys) ⟨w.drawn+1,rfl,Nat.le_succ _⟩ hz (by
     rw [Array.size_append,OX,jc,List.size_toArray,pb,←Nat.add_mul];congr 1;omega) (by simpa using tS) hle (fun i x hx=>by
     simp only [List.take_zero,List.nil_append] at hx;obtain⟨q1,q2⟩:=tQ i x hx;refine⟨q1,fun j c' hj=>?_⟩;obtain⟨u,hu,hr⟩:=q2 j c' hj;refine⟨u,?_,hr⟩;rw [Array.getElem?_append_left (by simpa using(List.getElem?_eq_some_iff.1 hu).1)];simpa using hu)
   exact⟨_,_,_,gn,n1,by simpa using n2 ys.length tS⟩
  |@arr _ _ _ _ cap hm gF lE tR=>
   rw [gF] at nW;cases nW;simp only [Nat.zero_add,Nat.zero_mul] at tR⊢;obtain⟨r1,r2,r3,r4,C,r5,r6,r7⟩:=nX;have Eg:hm.cy=E.size:=by rw [←r1,jF]
   rw [Eg] at r6 r7;rw [vo] at r5;subst tR;have hnC:n*E.size≤C.size:=by rw [r6];exact Nat.mul_le_mul_right _ lE
   by_cases HM:n+ys.length≤hm.cap
   ·have kg:n*i.size+news.length≤C.size:=by rw [ed,pb,r6,←Nat.add_mul];exact Nat.mul_le_mul_right _ HM
    have gn:=run_append_room (P:=P) w t ty e i (o_ h hk) hi hm.cY n hm.cap C r5 ad ys.length xX news (by rw [ed];exact pb) HK HL HM kg;rw [ed] at gn kg;have HN:n*E.size+news.length≤C.toList.length:=by simpa using kg
    have lC:=hs.m.ga b k hm hb gF;have xZ:∀q,R q→(w.setRow hm.cY (C.toList.take (n*E.size)++news++C.toList.drop (n*E.size+news.length)).toArray).heap[q]?=w.heap[q]?:=fun q hq=>setRow_other w hm.cY q _ (fun e=>lC (e▸hq))
    have HO:=OW hn r7 tQ (C':=(C.toList.take (n*E.size)++news++C.toList.drop (n*E.size+news.length)).toArray) (fun q hq=>by
      rw [xW _ _ _ HN,if_neg (by omega),Array.getElem?_toList]) (fun q hq=>by
      rw [xW _ _ _ HN,if_pos (by omega),show n*E.size+q -n*E.size=q by omega])
    have nY:=jG.write (b:=d) (k:=⟨e,E.size,k.xs.take n⟩) (k':=⟨e,E.size,k.xs.take n++ys⟩) (x:=hm) (by simp [Hr]) (by simp [Ph.up]) (C.toList.take (n*E.size)++news++C.toList.drop (n*E.size+news.length)).toArray
     ⟨Eg.symm,r2,by simp;omega,r4,_,setRow_heap w hm.cY C _ e _ r5,by rw [Hx _ _ _ HN,Eg,←r6];simp,fun i x hx=>by
      rw [Eg];obtain⟨q1,q2⟩:=HO i x hx;refine⟨q1,fun j c' hj=>?_⟩;obtain⟨u,hu,hr⟩:=q2 j c' hj
      exact⟨u,hu,hr.mono xZ (fun _ h=>h) (Ph.AU _ (by
       cases hq:φ d with
       |none=>rfl
       |some y=>obtain⟨z,hz⟩:=hs.gM d y hq;rw [hd] at hz;cases hz))⟩⟩
    refine⟨_,_,φ.up d (some hm),gn,⟨nY.n,nY.t,?_,?_,?_,nY.R0,nY.Rn,nY.Rb,nY.ext,nY.d,nY.gi⟩,?_⟩
    ·have x4:=nY.m
     have eqv:∀q,lk q ((d,some (⟨e,E.size,k.xs.take n++ys⟩:fc))::(b,none)::s.m)=lk q ((d,some (⟨e,E.size,k.xs.take n++ys⟩:fc))::(d,some (⟨e,E.size,k.xs.take n⟩:fc))::(b,none)::s.m):=by
      intro q;simp only [eo];repeat' split
      all_goals rfl
     exact⟨fun b1 k1 g1=>x4.rel b1 k1 (by rw [←eqv];exact g1),fun b1 b2 k1 k2 y1 y2 g1 g2=>x4.inj b1 b2 k1 k2 y1 y2 (by rw [←eqv];exact g1) (by rw [←eqv];exact g2),fun b1 k1 y g1=>x4.ga b1 k1 y (by rw [←eqv];exact g1),x4.gl⟩
    ·intro q y hy;obtain⟨r,hr⟩:=nY.gM q y hy;refine⟨r,?_⟩;rw [←hr];simp only [eo];repeat' split
     all_goals rfl
    ·intro q k1 y g1 e1;refine nY.fresh q k1 y ?_ e1;rw [←g1];simp only [eo];repeat' split
     all_goals rfl
    ·have:=Rel.arr (w:=w.setRow hm.cY (C.toList.take (n*E.size)++news++C.toList.drop (n*E.size+news.length)).toArray) (R:=R) (φ:=φ.up d (some hm)) (b:=d) (off:=0) (len:=n+ys.length) (cap:=hm.cap) (h:=hm) (by simp [Ph.up]) HM (by simp);simpa using this
   ·have HP:(C.toList.take (n*E.size)).length=n*E.size:=by simp;omega
    have gn:=run_append_grow (P:=P) w t ty e i z (o_ h hk) hi jv ⟨hm.cY,0,none⟩ n hm.cap (C.toList.take (n*E.size)) (by rw [HP,ed]) (fun j v hj=>by
      rw [qP,Nat.zero_add,cell_of_row w _ _ C _ _ r5];rw [List.getElem?_take] at hj;split at hj
      ·rw [Array.getElem?_toList] at hj;exact hj
      ·cases hj) ad ys.length xX news (by rw [ed];exact pb) HK (by omega) O0 (growslice_fits (by omega) OZ)
    have tS:=grownCap_ge w (n+ys.length) hm.cap e;have hle:=grownCap_le_maxLen w (n+ys.length) hm.cap e hlen;obtain⟨g1,g2⟩:=abr (C.toList.take (n*E.size)) news (Builtin.zeroCells z.cells (grownCap w (n+ys.length) hm.cap e -(n+ys.length)));rw [HP] at g1 g2
    have HO:=OW hn r7 tQ (fun q hq=>by
      rw [g1 q hq,List.getElem?_take,if_pos hq,Array.getElem?_toList]) g2
    obtain⟨n1,n2⟩:=OY.Ec d ⟨rW,pP⟩ (w':=w.drew.alloc (.cells ((C.toList.take (n*E.size)).toArray++news.toArray++Builtin.zeroCells z.cells (grownCap w (n+ys.length) hm.cap e -(n+ys.length))) e)) (T:=e) (n:=E.size) (cap:=grownCap w (n+ys.length) hm.cap e) (C:=(C.toList.take (n*E.size)).toArray++news.toArray++Builtin.zeroCells z.cells (grownCap w (n+ys.length) hm.cap e -(n+ys.length))) (xs:=k.xs.take n++ys) ⟨w.drawn+1,rfl,Nat.le_succ _⟩ hz (by
      rw [Array.size_append,Array.size_append,OX,jc,List.size_toArray,List.size_toArray,HP,pb,←Nat.add_mul,←Nat.add_mul];congr 1;omega) (by simp;omega) hle HO
    exact⟨_,_,_,by simpa using gn,n1,n2 _ tS⟩
theorem O1 {t e d b n:Nat} {x y:Operand} {D E:af} {k:fc} {ys:List AV} {acc:List Nat} (ho:o.op=lZ .append #[x,y] #[t,t]) (h:aF P t=some D) (hk:D.k=.slice e) (hE:aF P e=some E) (hz:Nat.blt 0 E.size=true)
  (hx:s.ev x=.arr b 0 n) (hb:lk b s.m=some (some k)) (vo:Nat.beq k.ty e=true) (jF:Nat.beq k.cy E.size=true) (hn:n≤k.xs.length)
  (abv:(s.ev y=.sl ys∧∀x∈ys,x.cells.length=E.size)∨(s.ev y=.b9∧ys=[])∨∃b' off len k',s.ev y=.arr b' off len∧lk b' s.m=some (some k')∧k'.cy=E.size∧off+len≤k'.xs.length∧ys=(k'.xs.drop off).take len∧b'∈acc)
  (hc:ys.all (fun x=>x.cells.all AV.k9)=true) (nV:(n+ys.length)*E.bytes≤140737488355328) (hlen:n+ys.length≤9223372036854775807):
  di P o s ⟨.arr d 0 (n+ys.length),[(d,some ⟨e,E.size,k.xs.take n++ys⟩),(b,none)],b::acc,[d]⟩:=by
 intro s' _ ca gk jE;refine tJ fun c φ R a w hs=>?_
 have h1:=hs.ev x;rw [ca x (rV ho x (by simp)),hx] at h1;have h2:=hs.ev y;rw [ca y (rV ho y (by simp))] at h2;have ig:lk b s'.m=some (some k):=by rw [gk b (by simp)];exact hb
 have hS:A2 w R φ E.size ys (a.eval y):=by
  rcases abv with⟨hy,hz⟩|⟨hy,rfl⟩|⟨b',off,len,k',hy,ON,HQ,hl,rfl,lF⟩
  ·rw [hy] at h2;exact abm h2 hz
  ·rw [hy] at h2;exact abp h2
  ·rw [hy] at h2;exact abo hs h2 (by rw [gk b' (by simp [lF])];exact ON) HQ hl
 obtain⟨v,w',φ',gn,jG,hv⟩:=abt (ty:=o.type) hs h hk hE (by simpa using hz) h1 ig (Nat.eq_of_beq_eq_true vo) (Nat.eq_of_beq_eq_true jF) hn hS hc (jE d (by simp)) nV (by simp only [maxLen];exact hlen);exact⟨v,w',φ',R,by simp [vm ho,builtin,gn],cW.app jG o.dst hv⟩
end
def eG (ops:Array Oper) (s:St) (o:Oper):Option Bool:=
 match o.guard with
 |none=>some true
 |some (j,want)=>match ops[j]?with
  |none=>none
  |some oj=>match oj.dst with
   |none=>none
   |some d=>match s.get d with
    |.sc (.bool true)=>some want
    |.sc (.bool false)=>some (!want)
    |.cz []=>some false
    |_=>none
theorem HR {ops:Array Oper} {c:Ctx} {φ:Ph} {R:Nat→Prop} {s:St} {a:Act} {w:World} {o:Oper} {b:Bool} (hs:cW c φ R s a w) (h:eG ops s o=some b):Region.wanted o (yielded ops a.tmps)=b:=by
 unfold eG at h;unfold Region.wanted;cases hg:o.guard with
 |none=>simp [hg] at h;simp [←h]
 |some p=>
  obtain⟨j,want⟩:=p;simp only [hg] at h⊢;cases hj:ops[j]?with
  |none=>simp [hj] at h
  |some oj=>
   cases hd:oj.dst with
   |none=>simp [hj,hd] at h
   |some d=>
    simp only [hj,hd] at h;have hr:=hs.get d
    have hy:∀v,a.tmps.getD d undef=v→yielded ops a.tmps j=match v with|.bool b=>some b|_=>none:=by
     intro v hv;simp only [yielded,hj,hd,Option.bind_some];rw [Array.getD_eq_getD_getElem?] at hv;cases hq:a.tmps[d]?with
     |none=>rw [hq] at hv;simp [undef] at hv;subst hv;rfl
     |some u=>rw [hq] at hv;simp at hv;subst hv;cases u<;>rfl
    split at h
    ·rename_i he;rw [he] at hr;rw [hy _ hr.gN];cases h;cases b<;>rfl
    ·rename_i he;rw [he] at hr;rw [hy _ hr.gN];cases h;cases want<;>rfl
    ·rename_i he;rw [he] at hr;cases h;generalize hq:a.tmps.getD d undef=q at hr;cases hr with
     |cz hl _=>
      rw [hy _ hq];rfl
    ·cases h
def Eh:ec:=⟨.cz [],[],[],[]⟩
structure Item where
 i:Nat
 o:Oper
 e:Option ec
def Item.my (x:Item):ec:=match x.e with
 |some e=>e
 |none=>Eh
def Item.ok (P:Program) (ops:Array Oper) (x:Item) (s:St):Prop:=
 match x.e with
 |some e=>eG ops s x.o=some true∧di P x.o s e∧∀b∈e.nw,Fr s b
 |none=>eG ops s x.o=some false
def iq (P:Program) (ops:Array Oper) (K:St→Prop):List Item→St→Prop
 |[],s=>K s
 |x::l,s=>x.ok P ops s∧iq P ops K l (s.app x.o.dst x.my)
structure jw (s s':St):Prop where
 n:s.n=s'.n
 t:∀t,lk t s.t=lk t s'.t
 m:∀b,lk b s.m=lk b s'.m
theorem jw.symm {s s':St} (h:jw s s'):jw s' s:=⟨h.n.symm,fun t=>(h.t t).symm,fun b=>(h.m b).symm⟩
theorem jw.get {s s':St} (h:jw s s') (t:Nat):s.get t=s'.get t:=by simp [St.get,h.t]
theorem jw.ev {s s':St} (h:jw s s') (x:Operand):s.ev x=s'.ev x:=by cases x<;>simp [St.ev,h.get]
theorem jw.HS {s s':St} (h:jw s s') {c:Ctx} {φ:Ph} {R:Nat→Prop} {a:Act} {w:World} (hs:cW c φ R s a w):cW c φ R s' a w:=
 ⟨hs.n.trans h.n,fun t av ht=>hs.t t av (by rw [h.t];exact ht),⟨fun b k hb=>hs.m.rel b k (by rw [h.m];exact hb),fun b b' k k' x x' h1 h2=>hs.m.inj b b' k k' x x' (by rw [h.m];exact h1) (by rw [h.m];exact h2),fun b k x hb=>hs.m.ga b k x (by rw [h.m];exact hb),hs.m.gl⟩,
  fun b x hb=>by obtain⟨y,hy⟩:=hs.gM b x hb;exact⟨y,by rw [←h.m];exact hy⟩,fun b k x hb=>hs.fresh b k x (by rw [h.m];exact hb),hs.R0,hs.Rn,hs.Rb,hs.ext,hs.d,hs.gi⟩
theorem HT (s:St) (dst:Option Nat) (v:AV) (t:Nat):lk t (s.put dst v).t=if dst=some t∧t<s.n then some v else lk t s.t:=by
 unfold St.put;cases dst with
 |none=>simp
 |some d=>
  by_cases hd:d<s.n
  ·have hb:Nat.blt d s.n=true:=by simpa [Nat.blt_eq] using hd
   simp only [hb,eo];by_cases e:t=d
   ·subst e;simp [hd]
   ·simp [e,Ne.symm e]
  ·have hb:Nat.blt d s.n=false:=by
    cases hx:Nat.blt d s.n
    ·rfl
    ·exact absurd (by simpa [Nat.blt_eq] using hx) hd
   simp only [hb];split
   ·rename_i h;obtain⟨h1,h2⟩:=h;cases h1;exact absurd h2 hd
   ·rfl
theorem jw.app {s s':St} (h:jw s s') (dst:Option Nat) (e:ec):jw (s.app dst e) (s'.app dst e):=
 ⟨h.n,fun t=>by simp only [St.app,HT,h.n,h.t],fun b=>by simp only [St.app,qO,h.m]⟩
theorem Ei {ops:Array Oper} {s s':St} {o:Oper} (h:∀j want oj d,o.guard=some (j,want)→ops[j]?=some oj→oj.dst=some d→s.get d=s'.get d):eG ops s o=eG ops s' o:=by
 unfold eG;cases hg:o.guard with
 |none=>rfl
 |some p=>
  obtain⟨j,want⟩:=p;dsimp only;cases hj:ops[j]?with
  |none=>rfl
  |some oj=>
   dsimp only;cases hd:oj.dst with
   |none=>rfl
   |some d=>dsimp only;rw [h j want oj d hg hj hd]
theorem di.congr {P:Program} {o:Oper} {s s':St} {e:ec} (h:di P o s e) (hn:s'.n=s.n) (ca:∀x∈o.op.operands.toList,s'.ev x=s.ev x) (gk:∀b∈e.acc,lk b s'.m=lk b s.m):di P o s' e:=
 fun q h1 h2 h3 h4=>h q (h1.trans hn) (fun x hx=>(h2 x hx).trans (ca x hx)) (fun b hb=>(h3 b hb).trans (gk b hb)) h4
theorem Item.abw {P:Program} {ops:Array Oper} {x:Item} {s s':St} (h:jw s s') (hx:x.ok P ops s):x.ok P ops s':=by
 unfold Item.ok at*
 cases he:x.e with
 |none=>
  simp only [he] at hx⊢;rw [←hx];exact Ei fun _ _ _ d _ _ _=>(h.get d).symm
 |some e=>
  simp only [he] at hx⊢;exact⟨(Ei fun _ _ _ d _ _ _=>(h.get d).symm).trans hx.1,hx.2.1.congr h.n.symm (fun y _=>(h.ev y).symm) (fun b _=>(h.m b).symm),fun b hb=>⟨by rw [←h.m];exact(hx.2.2 b hb).1,(hx.2.2 b hb).2⟩⟩
theorem iq.same {P:Program} {ops:Array Oper} {K:St→Prop} (hK:∀s s',jw s s'→K s→K s'):∀(l:List Item) {s s':St},jw s s'→iq P ops K l s→iq P ops K l s'
 |[],_,_,h,hr=>hK _ _ h hr
 |_::l,_,_,h,hr=>⟨Item.abw h hr.1,iq.same hK l (h.app _ _) hr.2⟩
def looks (ops:Array Oper) (o:Oper):List Nat:=o.looksAt ops
def Ej (l r:List Nat):Bool:=l.all fun x=>!r.contains x
def indep (ops:Array Oper) (x y:Item):Bool:=
 x.o.apart ops y.o&&Ej (x.my.wr.map (·.1)) (y.my.acc++y.my.nw++y.my.wr.map (·.1))&&Ej (y.my.wr.map (·.1)) (x.my.acc++x.my.nw)
theorem O2 {l r:List Nat} (h:Ej l r=true):∀x∈l,x∉r:=by
 intro x hx hr;unfold Ej at h;rw [List.all_eq_true] at h;have:=h x hx;simp [hr] at this
theorem HU {α:Type} {b:Nat} {l:List (Nat×α)} (h:b∉l.map (·.1)):lk b l=none:=by
 induction l with
 |nil=>rfl
 |cons p l ih=>
  obtain⟨j,v⟩:=p;simp only [List.map_cons,List.mem_cons,not_or] at h;rw [D0 _ _ h.1];exact ih h.2
theorem HV {s:St} {dst:Option Nat} {e:ec} {b:Nat} (h:b∉e.wr.map (·.1)):lk b (s.app dst e).m=lk b s.m:=by
 simp only [St.app,qO,HU h,Option.none_or]
theorem HW {s:St} {dst:Option Nat} {e:ec} {t:Nat} (h:dst≠some t):(s.app dst e).get t=s.get t:=by
 simp only [St.get,St.app,HT];rw [if_neg (fun hh=>h hh.1)]
theorem O3 {s:St} {dst:Option Nat} {e:ec} {x:Operand} (h:∀d,dst=some d→x≠.tmp d):(s.app dst e).ev x=s.ev x:=by
 cases x with
 |tmp t=>exact HW (fun hd=>h t hd rfl)
 |_=>rfl
theorem O4 {ops:Array Oper} {o:Oper} {t:Nat} (h:Operand.tmp t∈o.op.operands.toList):t∈o.looksAt ops:=by
 unfold Oper.looksAt;refine List.mem_append.2 (.inl (List.mem_filterMap.2 ⟨_,h,rfl⟩))
theorem O5 {ops:Array Oper} {o:Oper} {j:Nat} {want:Bool} {oj:Oper} {d:Nat} (hg:o.guard=some (j,want)) (hj:ops[j]?=some oj) (hd:oj.dst=some d):d∈o.looksAt ops:=by
 unfold Oper.looksAt;refine List.mem_append.2 (.inr ?_);simp [hg,hj,hd]
theorem abx {P:Program} {ops:Array Oper} {y:Item} {s:St} {dst:Option Nat} {e:ec} (hd:∀d,dst=some d→d∉y.o.looksAt ops) (hw:∀b∈e.wr.map (·.1),b∉y.my.acc) (h:y.ok P ops (s.app dst e)):y.ok P ops s:=by
 have k_:∀t∈y.o.looksAt ops,(s.app dst e).get t=s.get t:=fun t ht=>HW (fun hh=>hd t hh ht)
 have hg:eG ops (s.app dst e) y.o=eG ops s y.o:=Ei fun j want oj d h1 h2 h3=>k_ d (O5 h1 h2 h3)
 unfold Item.ok at*
 unfold Item.my at hw;cases hy:y.e with
 |none=>simp only [hy] at h⊢;rw [←hg];exact h
 |some ey=>
  simp only [hy] at h hw⊢;refine⟨by rw [←hg];exact h.1,h.2.1.congr rfl (fun x hx=>(O3 fun d rW hxd=>?_).symm) (fun b hb=>(HV fun A5=>hw b A5 hb).symm),fun b hb=>?_⟩
  ·subst hxd;exact hd d rW (O4 hx)
  ·refine⟨?_,(h.2.2 b hb).2⟩;have:=(h.2.2 b hb).1;simp only [St.app,qO] at this;cases hq:lk b e.wr with
   |none=>simpa [hq] using this
   |some v=>simp [hq] at this
theorem abz {P:Program} {ops:Array Oper} {x:Item} {s:St} {dst:Option Nat} {e:ec} (hd:∀d,dst=some d→d∉x.o.looksAt ops) (hw:∀b∈e.wr.map (·.1),b∉x.my.acc++x.my.nw) (h:x.ok P ops s):x.ok P ops (s.app dst e):=by
 have k_:∀t∈x.o.looksAt ops,(s.app dst e).get t=s.get t:=fun t ht=>HW (fun hh=>hd t hh ht)
 have hg:eG ops (s.app dst e) x.o=eG ops s x.o:=Ei fun j want oj d h1 h2 h3=>k_ d (O5 h1 h2 h3)
 unfold Item.ok at*
 unfold Item.my at hw;cases hx:x.e with
 |none=>simp only [hx] at h⊢;rw [hg];exact h
 |some ex=>
  simp only [hx] at h hw⊢;refine⟨by rw [hg];exact h.1,h.2.1.congr rfl (fun y hy=>O3 fun d rW hyd=>?_) (fun b hb=>HV fun A5=>hw b A5 (List.mem_append.2 (.inl hb))),fun b hb=>?_⟩
  ·subst hyd;exact hd d rW (O4 hy)
  ·refine⟨?_,(h.2.2 b hb).2⟩;rw [HV fun A5=>hw b A5 (List.mem_append.2 (.inr hb))];exact(h.2.2 b hb).1
theorem abB {s:St} {d d':Option Nat} {e e':ec} (hd:∀t,d=some t→d'≠some t) (hw:∀b∈e.wr.map (·.1),b∉e'.wr.map (·.1)):jw ((s.app d e).app d' e') ((s.app d' e').app d e):=by
 refine⟨rfl,fun t=>?_,fun b=>?_⟩
 ·have h1:∀(q:St) (dd:Option Nat) (ee:ec) (t:Nat),lk t (q.app dd ee).t=if dd=some t∧t<q.n then some ee.v else lk t q.t:=fun q dd ee t=>by simp only [St.app,HT]
  rw [h1,h1,h1,h1];show(if d'=some t∧t<s.n then some e'.v else if d=some t∧t<s.n then some e.v else lk t s.t)=(if d=some t∧t<s.n then some e.v else if d'=some t∧t<s.n then some e'.v else lk t s.t)
  by_cases h2:d=some t∧t<s.n
  ·have h4:¬(d'=some t∧t<s.n):=fun h3=>hd t h2.1 h3.1
   rw [if_neg h4,if_pos h2,if_pos h2]
  ·rw [if_neg h2,if_neg h2]
 ·simp only [St.app,qO];cases h1:lk b e.wr with
  |none=>simp
  |some v=>
   have hb:b∈e.wr.map (·.1):=by
    refine Classical.byContradiction fun hn=>?_
    rw [HU hn] at h1;cases h1
   rw [HU (hw b hb)];simp
theorem iq.swap {P:Program} {ops:Array Oper} {K:St→Prop} (hK:∀s s',jw s s'→K s→K s') {x y:Item} {l:List Item} {s:St} (hi:indep ops x y=true) (h:iq P ops K (x::y::l) s):iq P ops K (y::x::l) s:=by
 unfold indep at hi;simp only [Bool.and_eq_true] at hi;obtain⟨⟨ha,A6⟩,dP⟩:=hi;obtain⟨a1,a2,a3⟩:=Oper.apart_spec ha;have w1:=O2 A6;have w2:=O2 dP;obtain⟨hx,hy,hl⟩:=h;refine⟨abx a1 (fun b hb hc=>w1 b hb (by simp [hc])) hy,abz a3 w2 hx,?_⟩
 exact iq.same hK l (abB a2 (fun b hb hc=>w1 b hb (by
  simp only [List.mem_append];exact .inr hc))) hl
theorem iq.first {P:Program} {ops:Array Oper} {K:St→Prop} (hK:∀s s',jw s s'→K s→K s') {y:Item} {l:List Item}:∀(pre:List Item) {s:St},(∀x∈pre,indep ops x y=true)→iq P ops K (pre++y::l) s→iq P ops K (y::(pre++l)) s
 |[],_,_,h=>h
 |x::pre,s,hi,h=>by
  have h1:iq P ops K (x::y::(pre++l)) s:=⟨h.1,iq.first hK pre (fun z hz=>hi z (by simp [hz])) h.2⟩
  exact iq.swap hK (hi x (by simp)) h1
theorem HX {P:Program} {ops:Array Oper} {Q:Exit→Act→World→Prop} {x:Item} {s:St} {c:Ctx} {a:Act} {w:World} {K:Act→World→Prop} (hx:ops[x.i]?=some x.o) (h:x.ok P ops s) (hs:dJ c s a w) (hK:∀a' w',dJ c (s.app x.o.dst x.my) a' w'→K a' w'):wpOp P ops Q x.i K a w:=by
 obtain⟨φ,R,dz⟩:=hs;unfold wpOp;simp only [hx];unfold Item.ok at h;unfold Item.my at hK;cases he:x.e with
 |none=>
  simp only [he] at h hK;rw [HR dz h];simp only [Bool.false_eq_true,if_false];exact hK _ _ ⟨φ,R,cW.app (s:=s) (m:=s.m) dz x.o.dst (.cz rfl (by simp))⟩
 |some e=>
  simp only [he] at h hK;rw [HR dz h.1];simp only [if_true];exact .inl (h.2.1 s rfl (fun _ _=>rfl) (fun _ _=>rfl) h.2.2 c a w K Q ⟨φ,R,dz⟩ hK)
theorem Ek {P:Program} {ops:Array Oper} {Q:Exit→Act→World→Prop} {c:Ctx} {K:St→Prop} (hK:∀s a w,K s→dJ c s a w→Q .normal a w):∀(l:List Item) (s:St) (a:Act) (w:World),(∀x∈l,ops[x.i]?=some x.o)→iq P ops K l s→dJ c s a w→wpOps P ops Q (l.map (·.i)) a w
 |[],s,a,w,_,h,hs=>hK s a w h hs
 |x::l,s,a,w,hi,h,hs=>by
  rw [List.map_cons,wpOps_cons];exact HX (hi x (by simp)) h.1 hs (fun a' w' cJ=>Ek hK l _ a' w' (fun y hy=>hi y (by simp [hy])) h.2 cJ)
def pc (e:Edge):Bool:=Region.binds .any e
def nZ (ops:List Oper):List Nat:=
 go ops []
where
 one (acc:List Nat):List Edge→Nat
  |[]=>0
  |e::l=>match pc e with
   |true=>(2^e.on|||acc.getD e.on 0)|||one acc l
   |false=>one acc l
 go:List Oper→List Nat→List Nat
  |[],acc=>acc
  |o::l,acc=>go l (acc++[one acc o.after.toList])
def tT:List Oper→Nat→Bool
 |[],_=>true
 |o::l,k=>(o.after.toList.all fun e=>!pc e||Nat.blt e.on k)&&tT l (k+1)
def rX (ops:Array Oper) (ms:List Nat):List Item→Bool
 |[]=>true
 |x::l=>(l.all fun y=>(ms.getD y.i 0).testBit x.i||indep ops x y)&&rX ops ms l
def vq (ops:Array Oper) (l:List Item):Bool:=tT ops.toList 0&&rX ops (nZ ops.toList) l
def Down (ops:Array Oper) (listed:Nat→Prop):Prop:=∀j o,ops[j]?=some o→listed j→∀e∈o.after,pc e=true→listed e.on
theorem HY {ops:Array Oper} {listed:Nat→Prop} (hd:Down ops listed) {acc:List Nat} (gk:∀j i,(acc.getD j 0).testBit i=true→(∃o,ops[j]?=some o∧∀e∈o.after,pc e=true→listed e.on)→listed i) (qR:∀j,listed j→∃o,ops[j]?=some o):
  ∀(l:List Edge) (i:Nat),(nZ.one acc l).testBit i=true→(∀e∈l,pc e=true→listed e.on)→listed i
 |[],i,h,_=>by simp [nZ.one] at h
 |e::l,i,h,hl=>by
  simp only [nZ.one] at h;cases he:pc e with
  |false=>rw [he] at h;exact HY hd gk qR l i h (fun e' vi=>hl e' (by simp [vi]))
  |true=>
   rw [he] at h;simp only [Nat.testBit_or,Bool.or_eq_true,Nat.testBit_two_pow,decide_eq_true_eq] at h;have HZ:=hl e (by simp) he;rcases h with(h|h)|h
   ·exact h▸HZ
   ·obtain⟨o,ho⟩:=qR _ HZ;exact gk e.on i h ⟨o,ho,fun e' vi hh=>hd e.on o ho HZ e' vi hh⟩
   ·exact HY hd gk qR l i h (fun e' vi=>hl e' (by simp [vi]))
theorem O6 {ops:Array Oper} {listed:Nat→Prop} (hd:Down ops listed) (qR:∀j,listed j→∃o,ops[j]?=some o):∀(l:List Oper) (acc:List Nat),(∀k,l[k]?=ops[acc.length+k]?)→
  (∀j i,(acc.getD j 0).testBit i=true→(∃o,ops[j]?=some o∧∀e∈o.after,pc e=true→listed e.on)→listed i)→
  ∀j i,((nZ.go l acc).getD j 0).testBit i=true→(∃o,ops[j]?=some o∧∀e∈o.after,pc e=true→listed e.on)→listed i
 |[],acc,_,gk=>gk
 |o::l,acc,hl,gk=>by
  simp only [nZ.go];refine O6 hd qR l (acc++[nZ.one acc o.after.toList]) (fun k=>?_) ?_
  ·have:=hl (k+1);simp only [List.getElem?_cons_succ] at this;rw [this];congr 1;simp;omega
  ·intro j i hb hj;by_cases fk:j<acc.length
   ·refine gk j i ?_ hj;rwa [List.getD_eq_getElem?_getD,List.getElem?_append_left fk,←List.getD_eq_getElem?_getD] at hb
   ·by_cases hje:j=acc.length
    ·subst hje;have h0:=hl 0;simp at h0;obtain⟨o',gm,hh⟩:=hj;rw [←h0] at gm;cases gm;rw [List.getD_eq_getElem?_getD] at hb;simp at hb;exact HY hd gk qR o.after.toList i hb (fun e he=>hh e (by simpa using he))
    ·rw [List.getD_eq_getElem?_getD,List.getElem?_eq_none (by simp;omega)] at hb;simp at hb
theorem abD {ops:Array Oper} {listed:Nat→Prop} (hd:Down ops listed) (qR:∀j,listed j→∃o,ops[j]?=some o) (j i:Nat) (h:((nZ ops.toList).getD j 0).testBit i=true) {o:Oper} (ho:ops[j]?=some o) (hl:∀e∈o.after,pc e=true→listed e.on):listed i:=
 O6 hd qR ops.toList [] (by simp) (by simp) j i h ⟨o,ho,hl⟩
theorem O7 {ops:Array Oper}:∀(l:List Oper) (k:Nat),(∀q,l[q]?=ops[k+q]?)→tT l k=true→∀j o,k≤j→ops[j]?=some o→∀e∈o.after,pc e=true→e.on<j
 |[],k,hl,_,j,o,hj,ho=>by
  have:=hl (j -k);rw [show k+(j -k)=j by omega,ho] at this
  simp at this
 |o::l,k,hl,h,j,o',hj,gm=>by
  simp only [tT,Bool.and_eq_true] at h;by_cases e:j=k
  ·subst e;have:=hl 0;simp at this;rw [←this] at gm;cases gm;intro e he hh;have h1:=h.1;rw [List.all_eq_true] at h1;have:=h1 e (by simpa using he);simpa [hh] using this
  ·exact O7 l (k+1) (fun q=>by
    have:=hl (q+1);simp only [List.getElem?_cons_succ] at this;rw [this];congr 1;omega) h.2 j o' (by omega) gm
theorem mem_ready {ops:Array Oper} {listed:Array Bool} {i:Nat} (h:i∈Region.ready .any ops listed):i<ops.size∧listed.getD i true=false∧∃o,ops[i]?=some o∧∀e∈o.after,pc e=true→listed.getD e.on false=true:=by
 unfold Region.ready at h;rw [List.mem_filter] at h;obtain⟨h1,h2⟩:=h;simp only [Bool.and_eq_true,Bool.not_eq_true'] at h2;cases ho:ops[i]?with
 |none=>simp [ho] at h2
 |some o=>
  simp only [ho,Option.map_some,Option.getD_some] at h2;refine⟨by simpa using h1,h2.1,o,rfl,fun e he hh=>?_⟩;have:=Array.all_eq_true.1 h2.2;obtain⟨q,hq,hqe⟩:=Array.mem_iff_getElem.1 he;have:=this q hq;rw [hqe] at this;have hb:Region.binds .any e=true:=hh;rw [hb] at this;simpa using this
theorem abF {ops:Array Oper} {listed:Array Bool} {i:Nat} {o:Oper} (ho:ops[i]?=some o) (hi:listed.getD i true=false) (h:∀e∈o.after,pc e=true→listed.getD e.on false=true):i∈Region.ready .any ops listed:=by
 unfold Region.ready;rw [List.mem_filter];refine⟨by simpa using(Array.getElem?_eq_some_iff.1 ho).1,?_⟩;simp only [hi,Bool.not_false,Bool.true_and,ho,Option.map_some,Option.getD_some];rw [Array.all_eq_true];intro q hq;have:=h o.after[q] (Array.getElem_mem hq);cases hb:Region.binds .any o.after[q] with
 |false=>simp
 |true=>simp [this hb]
theorem O8 {P:Program} {ops:Array Oper} {Q:Exit→Act→World→Prop} {c:Ctx} {K:St→Prop} (A7:∀s s',jw s s'→K s→K s') (hK:∀s a w,K s→dJ c s a w→Q .normal a w) (n4:tT ops.toList 0=true):
  ∀(n:Nat) (l:List Item) (listed:Array Bool) (s:St) (a:Act) (w:World),l.length=n→listed.size=ops.size→(∀x∈l,ops[x.i]?=some x.o)→(l.map (·.i)).Pairwise (·<·)→
   (∀i,i<ops.size→(listed.getD i true=false↔i∈l.map (·.i)))→Down ops (fun j=>listed.getD j false=true)→rX ops (nZ ops.toList) l=true→iq P ops K l s→dJ c s a w→
   wpAny P .any ops Q n listed a w:=by
 intro n
 induction n with
 |zero=>
  intro l listed s a w hn ed hi hs vt H0 hp hr nX;have:l=[]:=List.eq_nil_of_length_eq_zero hn;subst this;refine⟨?_,hK s a w hr nX⟩;refine List.eq_nil_iff_forall_not_mem.2 fun i ng=>?_
  obtain⟨h1,h2,_⟩:=mem_ready ng;simpa using(vt i h1).1 h2
 |succ n ih=>
  intro l listed s a w hn ed hi hs vt H0 hp hr nX
  have gd:∀j,j<ops.size→listed.getD j true=listed.getD j false:=fun j hj=>by
   simp [Array.getD_eq_getD_getElem?,ed,hj]
  refine⟨fun abG=>?_,fun i ng=>?_⟩
  ·
   exfalso
   match l,hn with
   |x::l,_=>
    have H2:=hi x (by simp);have kC:x.i<ops.size:=(Array.getElem?_eq_some_iff.1 H2).1
    have:x.i∈Region.ready .any ops listed:=abF H2 ((vt x.i kC).2 (by simp)) (fun e he hh=>by
     have cn:=O7 ops.toList 0 (by simp) n4 x.i x.o (Nat.zero_le _) H2 e he hh;have iL:e.on<ops.size:=by omega
     rw [←gd _ iL];cases hq:listed.getD e.on true with
     |true=>rfl
     |false=>
      have hm:=(vt e.on iL).1 hq;simp only [List.map_cons,List.mem_cons] at hm;rcases hm with hm|hm
      ·omega
      ·simp only [List.map_cons,List.pairwise_cons] at hs;have:=hs.1 _ hm;omega)
    rw [abG] at this;cases this
  ·obtain⟨HI,hiu,o,ho,x5⟩:=mem_ready ng;have gG:=(vt i HI).1 hiu;obtain⟨y,hy,H3⟩:=List.mem_map.1 gG;obtain⟨pre,post,rfl⟩:=List.append_of_mem hy;subst H3;have O9:=hi y (by simp);rw [ho] at O9;cases O9
   have qR:∀j,listed.getD j false=true→∃o,ops[j]?=some o:=by
    intro j hj
    have cn:j<listed.size:=by
     rcases Nat.lt_or_ge j listed.size with h|h
     ·exact h
     ·simp [Array.getD_eq_getD_getElem?,Array.getElem?_eq_none h] at hj
    exact⟨ops[j]'(by omega),by simp⟩
   have abI:∀x∈pre,indep ops x y=true:=by
    intro x hx
    have hpp:∀(pre:List Item),rX ops (nZ ops.toList) (pre++y::post)=true→∀x∈pre,((nZ ops.toList).getD y.i 0).testBit x.i=true∨indep ops x y=true:=by
     intro pre
     induction pre with
     |nil=>intro _ x hx;cases hx
     |cons z pre H4=>
      intro H5 x hx;simp only [List.cons_append,rX,Bool.and_eq_true] at H5;rcases List.mem_cons.1 hx with rfl|hx
      ·have:=List.all_eq_true.1 H5.1 y (by simp);simpa using this
      ·exact H4 H5.2 x hx
    rcases hpp pre hp x hx with h|h
    ·exfalso;have hl:=abD H0 qR y.i x.i h ho x5;have kC:x.i<ops.size:=(Array.getElem?_eq_some_iff.1 (hi x (by simp [hx]))).1;have:=(vt x.i kC).2 (by simp;exact .inl ⟨x,hx,rfl⟩);rw [gd _ kC,hl] at this;cases this
    ·exact h
   have gn:=iq.first A7 pre abI hr
   refine HX (hi y (by simp)) gn.1 nX (fun a' w' abK=>?_);refine ih (pre++post) (listed.setIfInBounds y.i true) _ a' w' (by simp at hn⊢;omega) (by simpa using ed) (fun x hx=>hi x (by simp at hx⊢;rcases hx with h|h;exact .inl h;exact .inr (.inr h))) ?_ ?_ ?_ ?_ gn.2 abK
   ·simp only [List.map_append,List.map_cons] at hs⊢;exact hs.sublist (List.Sublist.append_left (List.sublist_cons_self _ _) _)
   ·intro j hj;have H6:y.i<listed.size:=by omega
    have El:y.i∉(pre++post).map (·.i):=by
     simp only [List.map_append,List.map_cons] at hs⊢;rw [List.pairwise_append] at hs;intro hm;rcases List.mem_append.1 hm with h|h
     ·have:=hs.2.2 _ h y.i (by simp);omega
     ·have:=(List.pairwise_cons.1 hs.2.1).1 _ h;omega
    by_cases e:j=y.i
    ·subst e;simp only [Array.getD_eq_getD_getElem?,Array.getElem?_setIfInBounds,H6];simp only [if_true,Option.getD_some,Bool.true_eq_false,false_iff];exact El
    ·have h1:(listed.setIfInBounds y.i true).getD j true=listed.getD j true:=by
      simp only [Array.getD_eq_getD_getElem?,Array.getElem?_setIfInBounds_ne (Ne.symm e)]
     rw [h1,vt j hj];simp only [List.map_append,List.map_cons,List.mem_append,List.mem_cons];constructor
     ·rintro(h|h|h)
      ·exact .inl h
      ·exact absurd h e
      ·exact .inr h
     ·rintro(h|h)
      ·exact .inl h
      ·exact .inr (.inr h)
   ·intro j oj H7 hj e he hh;have H6:y.i<listed.size:=by omega
    have up:∀q,listed.getD q false=true→(listed.setIfInBounds y.i true).getD q false=true:=by
     intro q hq;by_cases e:q=y.i
     ·subst e;simp [Array.getD_eq_getD_getElem?,H6]
     ·rw [Array.getD_eq_getD_getElem?,Array.getElem?_setIfInBounds_ne (Ne.symm e),←Array.getD_eq_getD_getElem?];exact hq
    by_cases ej:j=y.i
    ·subst ej;rw [ho] at H7;cases H7;exact up _ (x5 e he hh)
    ·rw [Array.getD_eq_getD_getElem?,Array.getElem?_setIfInBounds_ne (Ne.symm ej),←Array.getD_eq_getD_getElem?] at hj;exact up _ (H0 j oj H7 hj e he hh)
   ·have A8:∀(pre:List Item),rX ops (nZ ops.toList) (pre++y::post)=true→rX ops (nZ ops.toList) (pre++post)=true:=by
     intro pre
     induction pre with
     |nil=>intro h;simp only [List.nil_append,rX,Bool.and_eq_true] at h⊢;exact h.2
     |cons z pre H4=>
      intro h;simp only [List.cons_append,rX,Bool.and_eq_true] at h⊢;refine⟨?_,H4 h.2⟩;rw [List.all_eq_true] at h⊢;intro q hq;exact h.1 q (by simp at hq⊢;rcases hq with hq|hq;exact .inl hq;exact .inr (.inr hq))
    exact A8 pre hp
def items:Nat→List Oper→List (Option ec)→List Item
 |k,o::l,e::r=>⟨k,o,e⟩::items (k+1) l r
 |_,_,_=>[]
theorem vu:∀(l:List Oper) (r:List (Option ec)) (k:Nat),l.length=r.length→(items k l r).map (·.i)=(List.range l.length).map (k+·)∧∀x∈items k l r,k≤x.i∧l[x.i -k]?=some x.o
 |[],[],k,_=>by simp [items]
 |o::l,e::r,k,h=>by
  obtain⟨h1,h2⟩:=vu l r (k+1) (by simpa using h);refine⟨?_,fun x hx=>?_⟩
  ·simp only [items,List.map_cons,h1,List.length_cons,List.range_succ_eq_map,List.map_map,Nat.add_zero,List.cons.injEq,true_and];apply List.map_congr_left;intro a _;simp;omega
  ·simp only [items,List.mem_cons] at hx;rcases hx with rfl|hx
   ·simp
   ·obtain⟨q1,q2⟩:=h2 x hx;refine⟨by omega,?_⟩;rw [show x.i -k=(x.i -(k+1))+1 by omega]
    simpa using q2
 |[],_::_,k,h=>by simp at h
 |_::_,[],k,h=>by simp at h
theorem abL {P:Program} {id:Nat} {ops:Array Oper} {draw:Bool} {Q:Exit→Act→World→Prop} {c:Ctx} {K:St→Prop} {s:St} {a:Act} {w:World} {r:List (Option ec)} (A7:∀s s',jw s s'→K s→K s') (hK:∀s a w,K s→dJ c s a w→Q .normal a w)
  (hlen:ops.toList.length=r.length) (cL:P.follows .mixedOrders=true) (vw:draw=true→vq ops (items 0 ops.toList r)=true) (hr:iq P ops K (items 0 ops.toList r) s) (hs:dJ c s a w):(Code.region id ops draw).wp P Q a w:=by
 obtain⟨h1,h2⟩:=vu ops.toList r 0 hlen
 have vx:∀x∈items 0 ops.toList r,ops[x.i]?=some x.o:=fun x hx=>by
  have:=(h2 x hx).2;simpa using this
 cases draw with
 |false=>
  refine wp_region ?_;have:=Ek hK _ s a w vx hr hs;rw [h1] at this;simpa using this
 |true=>
  refine wp_region_any cL ?_;have fm:=vw rfl;unfold vq at fm;simp only [Bool.and_eq_true] at fm
  have hl:(items 0 ops.toList r).length=ops.size:=by
   have:=congrArg List.length h1;simpa using this
  have cJ:dJ c s a {w with drawn:=w.drawn+1}:=by
   obtain⟨φ,R,q⟩:=hs;have e:=q.ext.trans (G':=fun _=>False) (c:={w with drawn:=w.drawn+1}) ⟨rfl,rfl,rfl,Nat.le_succ _,Nat.le_refl _,fun _ _ _=>rfl⟩ (fun _ _ h=>h.elim);refine⟨φ,R,q.n,fun t av ht=>(q.t t av ht).mono (fun _ _=>rfl) (fun _ h=>h) (fun _ _ h=>h),⟨fun b k hb=>?_,q.m.inj,q.m.ga,q.m.gl.mono (fun _ _=>rfl) (fun _ h=>h)⟩,q.gM,q.fresh,q.R0,q.Rn,q.Rb,e,q.d,q.gi⟩;obtain⟨oh,ho,hr⟩:=q.m.rel b k hb;exact⟨oh,ho,hr.mono (fun _ _=>rfl) (fun _ _=>rfl) (fun _ _ h=>h)⟩
  refine O8 A7 hK fm.1 ops.size _ _ s a _ hl (by simp) vx ?_ ?_ ?_ fm.2 hr cJ
  ·rw [h1];simp only [Nat.zero_add,List.map_id'];exact List.pairwise_lt_range
  ·intro i hi;rw [h1];simp [Array.getD_eq_getD_getElem?,hi]
  ·intro j o ho hj;simp [Array.getD_eq_getD_getElem?,(Array.getElem?_eq_some_iff.1 ho).1] at hj
abbrev Mem:=List (Nat×Option fc)
abbrev cZ:=List (Nat×Option Nat)
def tU:Value→Value→Prop
 |.int k a,.int k' b=>k=k'∧a=b
 |.bool a,.bool b=>a=b
 |v,u=>v=u
theorem abM {v u:Value} (h:tU v u):v=u:=by
 unfold tU at h;split at h
 ·obtain⟨rfl,rfl⟩:=h;rfl
 ·rw [h]
 ·exact h
mutual
def fp:AV→Bool
 |.ref _ _ _|.arr _ _ _|.jb _ _ _=>false
 |.db _ a b=>qS a&&qS b
 |.agg cs=>qS cs
 |.cz cs=>qS cs
 |_=>true
def qS:List AV→Bool
 |[]=>true
 |c::cs=>fp c&&qS cs
end
mutual
def iU:AV→Bool
 |.sl xs=>xs.isEmpty
 |.vp _=>false
 |.jb _ _ _=>false
 |.ju _=>false
 |.agg cs=>vy cs
 |.cz cs=>vy cs
 |.db _ a b=>vy a&&vy b
 |_=>true
def vy:List AV→Bool
 |[]=>true
 |c::cs=>iU c&&vy cs
end
theorem vA {cs:List AV} (h:qS cs=true):∀(i:Nat) (c:AV),cs[i]?=some c→fp c=true:=by
 induction cs with
 |nil=>intro i c hc;simp at hc
 |cons d ds ih=>
  simp only [qS,Bool.and_eq_true] at h;intro i c hc;cases i with
  |zero=>simp at hc;subst hc;exact h.1
  |succ i=>exact ih h.2 i c (by simpa using hc)
theorem A9 {cs:List AV} (h:vy cs=true):∀(i:Nat) (c:AV),cs[i]?=some c→iU c=true:=by
 induction cs with
 |nil=>intro i c hc;simp at hc
 |cons d ds ih=>
  simp only [vy,Bool.and_eq_true] at h;intro i c hc;cases i with
  |zero=>simp at hc;subst hc;exact h.1
  |succ i=>exact ih h.2 i c (by simpa using hc)
theorem Rel.fp {w:World} {R:Nat→Prop} {φ φ':Ph} {a:AV} {v:Value} (h:Rel w R φ a v) (hn:fp a=true):Rel w R φ' a v:=by
 induction h generalizing φ' with
 |bot=>exact .bot
 |sc h=>exact .sc h
 |b9=>exact .b9
 |agg hl _ ih=>exact .agg hl fun i c v h1 h2=>ih i c v h1 h2 (vA (by simpa [Ab.fp] using hn) i c h1)
 |cz hl _ ih=>exact .cz hl fun i c v h1 h2=>ih i c v h1 h2 (vA (by simpa [Ab.fp] using hn) i c h1)
 |jU=>exact .jU
 |sl f he hR lY hl hc hr _=>exact .sl f he hR lY hl hc hr
 |vp f hR hc hr _=>exact .vp f hR hc hr
 |ref hb=>simp [Ab.fp] at hn
 |arr hb hl hc=>simp [Ab.fp] at hn
 |kA hb=>simp [Ab.fp] at hn
 |db hf hc _ _ vc vd=>
  simp only [Ab.fp,Bool.and_eq_true] at hn;exact .db hf hc (fun i c v h1 h2=>vc i c v h1 h2 (vA hn.1 i c h1)) (fun i c v h1 h2=>vd i c v h1 h2 (vA hn.2 i c h1))
 |jb hd hR hc he=>simp [Ab.fp] at hn
 |ju _ ih=>exact .ju (ih (by simp [Ab.fp]))
theorem Rel.iU {w:World} {R R':Nat→Prop} {φ:Ph} {a:AV} {v:Value} (h:Rel w R φ a v) (hn:iU a=true):Rel w R' φ a v:=by
 induction h with
 |bot=>exact .bot
 |sc h=>exact .sc h
 |b9=>exact .b9
 |agg hl _ ih=>exact .agg hl fun i c v h1 h2=>ih i c v h1 h2 (A9 (by simpa [Ab.iU] using hn) i c h1)
 |cz hl _ ih=>exact .cz hl fun i c v h1 h2=>ih i c v h1 h2 (A9 (by simpa [Ab.iU] using hn) i c h1)
 |jU=>exact .jU
 |@sl _ xs b o cap e f he hR lY hl hc hr _=>
  simp [Ab.iU] at hn;subst hn;exact .jU
 |vp f hR hc hr _=>simp [Ab.iU] at hn
 |ref hb=>exact .ref hb
 |arr hb hl hc=>exact .arr hb hl hc
 |kA hb=>exact .kA hb
 |db hf hc _ _ vc vd=>
  simp only [Ab.iU,Bool.and_eq_true] at hn;exact .db hf hc (fun i c v h1 h2=>vc i c v h1 h2 (A9 hn.1 i c h1)) (fun i c v h1 h2=>vd i c v h1 h2 (A9 hn.2 i c h1))
 |jb hd hR hc he=>simp [Ab.iU] at hn
 |ju _ _=>simp [Ab.iU] at hn
def x6 (m:Mem) (b off len:Nat) (ys:List AV):Prop:=
 match lk b m with
 |some (some k)=>off+len≤k.xs.length∧ys=(k.xs.drop off).take len∧∀y∈ys,fp y=true
 |_=>False
def Em (m:Mem) (b i off:Nat) (ys:List AV):Prop:=
 match lk b m with
 |some (some k)=>i=0∧off=0∧∃e,k.xs[0]?=some e∧ys=e.cells∧∀(j:Nat) (y:AV),ys[j]?=some y→fp y=true
 |_=>False
mutual
def bX (m:Mem) (ρ:cZ):AV→AV→Prop
 |_,.bot=>True
 |.sc v,.sc u=>tU v u
 |.b9,.b9=>True
 |.b9,.sl ys=>ys=[]
 |.b9,.arr b off len=>lk b ρ=some none∧off=0∧len=0
 |.sl xs,.sl ys=>xs=ys
 |.vp xs,.vp ys=>xs=ys
 |.ju xs,.ju ys=>xs=ys
 |.jb d r xs,.jb d' r' ys=>lk d' ρ=some (some d)∧r=r'∧xs=ys
 |.ref b i off,.ref b' i' H8=>lk b' ρ=some (some b)∧i=i'∧off=H8
 |.arr b off len,.arr b' H8 abN=>lk b' ρ=some (some b)∧off=H8∧len=abN
 |.arr b off len,.sl ys=>x6 m b off len ys
 |.ref b i off,.vp ys=>Em m b i off ys
 |.agg cs,.agg ds=>gP m ρ cs ds
 |.cz cs,.cz ds=>gP m ρ cs ds
 |.db f a b,.db f' a' b'=>f=f'∧gP m ρ a a'∧gP m ρ b b'
 |_,_=>False
def gP (m:Mem) (ρ:cZ):List AV→List AV→Prop
 |[],[]=>True
 |c::cs,d::ds=>bX m ρ c d∧gP m ρ cs ds
 |_,_=>False
end
theorem l0 {m:Mem} {ρ:cZ}:∀{cs ds:List AV},gP m ρ cs ds→cs.length=ds.length∧∀(i:Nat) (c d:AV),cs[i]?=some c→ds[i]?=some d→bX m ρ c d
 |[],[],_=>⟨rfl,fun i c d h=>by simp at h⟩
 |c::cs,d::ds,h=>by
  simp only [gP] at h;obtain⟨h1,h2⟩:=l0 h.2;refine⟨by simp [h1],fun i c' d' hc hd=>?_⟩;cases i with
  |zero=>simp at hc hd;subst hc;subst hd;exact h.1
  |succ i=>exact h2 i c' d' (by simpa using hc) (by simpa using hd)
 |[],_::_,h=>by simp [gP] at h
 |_::_,[],h=>by simp [gP] at h
def Ph.via (φ:Ph) (ρ:cZ):Ph:=fun b'=>match lk b' ρ with
 |some (some b)=>φ b
 |some none=>some none
 |none=>none
theorem mz {φ:Ph} {R:Nat→Prop} {mm:Mem} {w:World} (hs:gX w R φ mm) {m:Mem} {ρ:cZ} {R':Nat→Prop} (hR:∀n,R n→R' n) (hm:∀b k h,lk b m=some (some k)→φ b=some (some h)→lk b mm=some (some k)∧R' h.cY) {x y:AV} {v:Value} (h:Rel w R φ x v) (hw:bX m ρ x y):Rel w R' (φ.via ρ) y v:=by
 induction h generalizing y with
 |bot=>cases y<;>simp [bX] at hw;exact .bot
 |sc hf=>
  cases y<;>simp only [bX] at hw
  ·exact .bot
  ·have:=abM hw;subst this;exact .sc hf
 |b9=>
  cases y<;>simp only [bX] at hw
  ·exact .bot
  ·exact .b9
  ·subst hw;exact .jU
  ·obtain⟨h1,rfl,rfl⟩:=hw;exact .kA (by simp [Ph.via,h1])
 |agg hl _ ih=>
  cases y<;>simp only [bX] at hw
  ·exact .bot
  ·obtain⟨g1,g2⟩:=l0 hw;refine .agg (g1▸hl) fun i d v hd hv=>?_
   have cn:=(List.getElem?_eq_some_iff.1 hd).1;exact ih i _ v (List.getElem?_eq_getElem (by omega)) hv hs hm (g2 i _ d (List.getElem?_eq_getElem (by omega)) hd)
 |cz hl _ ih=>
  cases y<;>simp only [bX] at hw
  ·exact .bot
  ·obtain⟨g1,g2⟩:=l0 hw;refine .cz (g1▸hl) fun i d v hd hv=>?_
   have cn:=(List.getElem?_eq_some_iff.1 hd).1;exact ih i _ v (List.getElem?_eq_getElem (by omega)) hv hs hm (g2 i _ d (List.getElem?_eq_getElem (by omega)) hd)
 |jU=>
  cases y<;>simp only [bX] at hw
  ·exact .bot
  ·subst hw;exact .jU
 |sl f he fe lY hl hc hr _=>
  cases y<;>simp only [bX] at hw
  ·exact .bot
  ·subst hw;exact(Rel.sl f he fe lY hl hc hr).mono (φ:=Ph.no) (fun _ _=>rfl) hR (fun b x hb=>by simp [Ph.no] at hb)
 |vp f fe hc hr _=>
  cases y<;>simp only [bX] at hw
  ·exact .bot
  ·subst hw;exact(Rel.vp f fe hc hr).mono (φ:=Ph.no) (fun _ _=>rfl) hR (fun b x hb=>by simp [Ph.no] at hb)
 |@ref φ b i off h hb=>
  cases y<;>simp only [bX] at hw
  ·exact .bot
  ·rename_i ys;unfold Em at hw;cases hq:lk b m with
   |none=>simp [hq] at hw
   |some ok=>
    cases ok with
    |none=>simp [hq] at hw
    |some k=>
     simp only [hq] at hw;obtain⟨rfl,rfl,e,h1,h2,h3⟩:=hw;obtain⟨g1,g2⟩:=hm b k h hq hb;obtain⟨oh,ho,hr⟩:=hs.rel b k g1;rw [hb] at ho;cases ho;obtain⟨r1,r2,r3,r4,C,r5,r6,r7⟩:=hr;obtain⟨q1,q2⟩:=r7 0 e h1;refine .vp (fun q=>C[0*h.cy+q]?.getD undef) g2 (fun q mx=>?_) (fun j c' hj=>?_)
     ·rw [cell_of_row w _ _ C _ _ r5];obtain⟨u,hu,_⟩:=q2 q (ys[q]) (by rw [←h2];simp [mx]);rw [Nat.add_zero,hu];rfl
     ·obtain⟨u,hu,il⟩:=q2 j c' (by rw [←h2];exact hj);rw [hu];exact(il.fp (φ':=Ph.no) (h3 j c' hj)).mono (fun _ _=>rfl) hR (fun _ _ h=>h)
  ·obtain⟨h1,rfl,rfl⟩:=hw;exact .ref (by simp [Ph.via,h1,hb])
 |@arr φ b off len cap h hb hl hc=>
  cases y<;>simp only [bX] at hw
  ·exact .bot
  ·
   rename_i ys;unfold x6 at hw;cases hq:lk b m with
   |none=>simp [hq] at hw
   |some ok=>
    cases ok with
    |none=>simp [hq] at hw
    |some k=>
     simp only [hq] at hw;obtain⟨h1,h2,h3⟩:=hw;obtain⟨g1,g2⟩:=hm b k h hq hb;obtain⟨oh,ho,hr⟩:=hs.rel b k g1;rw [hb] at ho;cases ho;obtain⟨r1,r2,r3,r4,C,r5,r6,r7⟩:=hr;have hlen:ys.length=len:=by rw [h2];simp;omega
     rw [←hlen];rw [←hlen] at hl;refine .sl (e:=h.cy) (fun q=>C[off*h.cy+q]?.getD undef) r2 g2 hl (fun i x hx=>?_) (fun q mx=>?_) (fun i x j c' hx hj=>?_)
     ·rw [h2,List.getElem?_take] at hx;split at hx
      ·rw [List.getElem?_drop] at hx;exact(r7 _ x hx).1
      ·cases hx
     ·have cn:off*h.cy+q<C.size:=by
       rw [r6];have:=Nat.mul_le_mul_right h.cy (show off+ys.length≤h.cap by omega)
       rw [Nat.add_mul] at this;omega
      rw [cell_of_row w _ _ C _ _ r5];simp [cn]
     ·have gG:=List.mem_of_getElem? hx;have je:=hx;rw [h2,List.getElem?_take] at je;split at je
      ·rw [List.getElem?_drop] at je;obtain⟨u,hu,il⟩:=(r7 _ x je).2 j c' hj;have e:off*h.cy+(i*h.cy+j)=(off+i)*h.cy+j:=by rw [Nat.add_mul];omega
       rw [e,hu];have hn:=h3 x gG;refine(il.fp (φ':=Ph.no) ?_).mono (fun _ _=>rfl) hR (fun _ _ h=>h);cases x with
       |agg cs=>exact vA (cs:=cs) (by simpa [fp] using hn) j c' hj
       |_=>
        simp only [AV.cells] at hj;cases j with
        |zero=>simp at hj;subst hj;exact hn
        |succ j=>simp at hj
      ·cases je
  ·obtain⟨h1,rfl,rfl⟩:=hw;exact .arr (by simp [Ph.via,h1,hb]) hl hc
 |@kA φ b hb=>
  cases y<;>simp only [bX] at hw
  ·exact .bot
  ·unfold x6 at hw;cases hq:lk b m with
   |none=>simp [hq] at hw
   |some ok=>
    cases ok with
    |none=>simp [hq] at hw
    |some k=>
     simp only [hq] at hw;obtain⟨h1,h2,h3⟩:=hw;simp at h2;subst h2;exact .jU
  ·obtain⟨h1,rfl,rfl⟩:=hw;exact .kA (by simp [Ph.via,h1,hb])
 |db hf hc _ _ vc vd=>
  cases y<;>simp only [bX] at hw
  ·exact .bot
  ·obtain⟨rfl,w1,w2⟩:=hw;obtain⟨g1,g2⟩:=l0 w1;obtain⟨g3,g4⟩:=l0 w2;refine .db (g1▸hf) (g3▸hc) (fun i d v hd hv=>?_) (fun i d v hd hv=>?_)
   ·have cn:=(List.getElem?_eq_some_iff.1 hd).1;exact vc i _ v (List.getElem?_eq_getElem (by omega)) hv hs hm (g2 i _ d (List.getElem?_eq_getElem (by omega)) hd)
   ·have cn:=(List.getElem?_eq_some_iff.1 hd).1;exact vd i _ v (List.getElem?_eq_getElem (by omega)) hv hs hm (g4 i _ d (List.getElem?_eq_getElem (by omega)) hd)
 |jb hd fe hc he=>
  cases y<;>simp only [bX] at hw
  ·exact .bot
  ·obtain⟨h1,rfl,rfl⟩:=hw;exact .jb (by simp [Ph.via,h1,hd]) (hR _ fe) hc he
 |ju _ ih=>
  cases y<;>simp only [bX] at hw
  ·exact .bot
  ·subst hw;exact .ju (ih hs hm (by simp [bX]))
variable{lim:Nat}
def vB:List AV→List AV→Prop
 |[],[]=>True
 |c::cs,d::ds=>c.cells.length=d.cells.length∧vB cs ds
 |_,_=>False
theorem H9:∀{cs ds:List AV},vB cs ds→∀(i:Nat) (c d:AV),cs[i]?=some c→ds[i]?=some d→c.cells.length=d.cells.length
 |[],[],_,i,c,d,h,_=>by simp at h
 |c::cs,d::ds,h,i,c',d',hc,hd=>by
  cases i with
  |zero=>simp at hc hd;subst hc;subst hd;exact h.1
  |succ i=>exact H9 h.2 i c' d' (by simpa using hc) (by simpa using hd)
 |[],_::_,h,_,_,_,_,_=>by simp [vB] at h
 |_::_,[],h,_,_,_,_,_=>by simp [vB] at h
def En (ρ:cZ) (xs ys:List AV):Prop:=(xs=ys∧∀y∈ys,fp y=true)∨(gP [] ρ xs ys∧vB xs ys)
def eT (ρ:cZ) (m:Mem):Mem→Prop
 |[]=>True
 |(_,none)::_=>False
 |(b',some k)::l=>(match lk b' ρ with
   |some (some b)=>∃k0,lk b m=some (some k0)∧k0.ty=k.ty∧k0.cy=k.cy∧En ρ k0.xs k.xs
   |some none=>k.xs=[]
   |none=>False)∧eT ρ m l
def pd (ρ:cZ) (s:St):List (Nat×AV)→Prop
 |[]=>True
 |(t,av)::l=>bX [] ρ (s.get t) av∧pd ρ s l
def iV:cZ→Bool
 |[]=>true
 |(_,some b)::l=>(l.all fun p=>match p.2 with|some b'=>!Nat.beq b b'|none=>true)&&iV l
 |(_,none)::l=>iV l
def pe (ρ:cZ) (m:Mem):Bool:=iV ρ&&ρ.all fun p=>(lk p.1 m).isSome&&(Nat.blt p.1 1000||match p.2 with|some b=>Nat.beq b p.1|none=>false)
theorem gI {α:Type} {k:Nat} {v:α} {l:List (Nat×α)} (h:lk k l=some v):(k,v)∈l:=by
 induction l with
 |nil=>simp [lk] at h
 |cons p l ih=>
  obtain⟨j,u⟩:=p;rw [eo] at h;split at h
  ·subst_vars;cases h;simp
  ·simp [ih h]
theorem Eo:∀{ρ:cZ},iV ρ=true→∀b1 b2 b,lk b1 ρ=some (some b)→lk b2 ρ=some (some b)→b1=b2
 |[],_,b1,b2,b,h1,_=>by simp [lk] at h1
 |(j,some q)::l,h,b1,b2,b,h1,h2=>by
  simp only [iV,Bool.and_eq_true] at h;rw [eo] at h1 h2
  have no:∀b1,lk b1 l=some (some q)→False:=by
   intro b1 hb;have:=List.all_eq_true.1 h.1 _ (gI hb);simp at this
  by_cases e1:b1=j
  ·by_cases e2:b2=j
   ·rw [e1,e2]
   ·rw [if_pos e1] at h1;cases h1;rw [if_neg e2] at h2;exact(no _ h2).elim
  ·rw [if_neg e1] at h1;by_cases e2:b2=j
   ·rw [if_pos e2] at h2;cases h2;exact(no _ h1).elim
   ·rw [if_neg e2] at h2;exact Eo h.2 b1 b2 b h1 h2
 |(j,none)::l,h,b1,b2,b,h1,h2=>by
  simp only [iV] at h;rw [eo] at h1 h2;by_cases e1:b1=j
  ·rw [if_pos e1] at h1;cases h1
  ·rw [if_neg e1] at h1;by_cases e2:b2=j
   ·rw [if_pos e2] at h2;cases h2
   ·rw [if_neg e2] at h2;exact Eo h b1 b2 b h1 h2
theorem x7 {ρ:cZ} {m:Mem}:∀{M:Mem},eT ρ m M→∀b' k,(b',some k)∈M→(match lk b' ρ with
   |some (some b)=>∃k0,lk b m=some (some k0)∧k0.ty=k.ty∧k0.cy=k.cy∧En ρ k0.xs k.xs
   |some none=>k.xs=[]
   |none=>False)
 |[],_,b',k,h=>by cases h
 |(j,none)::l,hw,_,_,_=>by simp [eT] at hw
 |(j,some q)::l,hw,b',k,h=>by
  simp only [eT] at hw;rcases List.mem_cons.1 h with h|h
  ·cases h;exact hw.1
  ·exact x7 hw.2 b' k h
theorem abO {ρ:cZ} {x y:AV} (h:bX [] ρ x y) (hl:x.cells.length=y.cells.length):∀(j:Nat) (c d:AV),x.cells[j]?=some c→y.cells[j]?=some d→bX [] ρ c d:=by
 intro j c d hc hd;by_cases hy:y=.bot
 ·subst hy;simp only [AV.cells] at hd;cases j with
  |zero=>simp at hd;subst hd;cases c<;>simp [bX]
  |succ j=>simp at hd
 ·have one:∀{x y:AV},x.cells=[x]→y.cells=[y]→bX [] ρ x y→∀(j:Nat) (c d:AV),x.cells[j]?=some c→y.cells[j]?=some d→bX [] ρ c d:=by
   intro x y h1 h2 h j c d hc hd;rw [h1] at hc;rw [h2] at hd;cases j with
   |zero=>simp at hc hd;subst hc;subst hd;exact h
   |succ j=>simp at hc
  cases x<;>cases y<;>first|exact absurd rfl hy|(simp [bX] at h;done)|exact one rfl rfl h j c d hc hd|skip
  rename_i cs ds;simp only [bX] at h;exact(l0 h).2 j c d hc hd
theorem n5 {φ:Ph} {R:Nat→Prop} {mm:Mem} {w:World} (hs:gX w R φ mm) {ρ:cZ} {M:Mem} (hi:iV ρ=true) (A_:(ρ.all fun p=>(lk p.1 M).isSome)=true) (hM:eT ρ mm M):
  gX w R (φ.via ρ) M∧(∀b x,φ.via ρ b=some x→∃y,lk b M=some y)∧(∀b k h,lk b M=some (some k)→φ.via ρ b=some (some h)→∃b0 k0,lk b ρ=some (some b0)∧lk b0 mm=some (some k0)∧φ b0=some (some h)):=by
 have H_:=Eo hi
 have src:∀b k h,lk b M=some (some k)→φ.via ρ b=some (some h)→∃b0 k0,lk b ρ=some (some b0)∧lk b0 mm=some (some k0)∧φ b0=some (some h)∧k0.ty=k.ty∧k0.cy=k.cy∧En ρ k0.xs k.xs:=by
  intro b k h hb hv;have:=x7 hM b k (gI hb);unfold Ph.via at hv;cases hq:lk b ρ with
  |none=>simp [hq] at hv
  |some o=>
   cases o with
   |none=>simp [hq] at hv
   |some b0=>
    simp only [hq] at hv this;obtain⟨k0,h0,h1,h2,h3⟩:=this;exact⟨b0,k0,rfl,h0,hv,h1,h2,h3⟩
 refine⟨⟨?_,?_,?_,hs.gl⟩,?_,?_⟩
 ·intro b k hb;have hm:=x7 hM b k (gI hb);cases hq:lk b ρ with
  |none=>simp [hq] at hm
  |some o=>
   cases o with
   |none=>
    simp only [hq] at hm;exact⟨none,by simp [Ph.via,hq],hm⟩
   |some b0=>
    simp only [hq] at hm;obtain⟨k0,h0,h1,h2,h3⟩:=hm;obtain⟨oh,ho,hr⟩:=hs.rel b0 k0 h0;refine⟨oh,by simp [Ph.via,hq,ho],?_⟩;cases oh with
    |none=>
     simp only [iT] at hr⊢;rw [hr] at h3;rcases h3 with⟨h3,_⟩|⟨h3,_⟩
     ·exact h3.symm
     ·have:=(l0 h3).1;exact List.eq_nil_of_length_eq_zero (by simpa using this.symm)
    |some x=>
     obtain⟨r1,r2,r3,r4,C,r5,r6,r7⟩:=hr;rcases h3 with⟨h3,h4⟩|⟨h3,h4⟩
     ·refine⟨by rw [←h2,r1],r2,by rw [←h3];exact r3,r4,C,by rw [←h1];exact r5,r6,fun i y hy=>?_⟩;have H':=hy;rw [←h3] at hy;obtain⟨q1,q2⟩:=r7 i y hy;refine⟨q1,fun j c' hj=>?_⟩;obtain⟨u,hu,il⟩:=q2 j c' hj;refine⟨u,hu,il.fp ?_⟩;have hn:=h4 y (List.mem_of_getElem? H');cases y with
      |agg cs=>exact vA (cs:=cs) (by simpa [fp] using hn) j c' hj
      |_=>
       simp only [AV.cells] at hj;cases j with
       |zero=>simp at hj;subst hj;exact hn
       |succ j=>simp at hj
     ·obtain⟨g1,g2⟩:=l0 h3;refine⟨by rw [←h2,r1],r2,by rw [←g1];exact r3,r4,C,by rw [←h1];exact r5,r6,fun i y hy=>?_⟩;have cn:=(List.getElem?_eq_some_iff.1 hy).1;have hx:k0.xs[i]?=some (k0.xs[i]'(by omega)):=List.getElem?_eq_getElem (by omega)
      obtain⟨q1,q2⟩:=r7 i _ hx;have hlen:=H9 h4 i _ y hx hy;refine⟨by rw [←hlen];exact q1,fun j d hj=>?_⟩;have fk:j<(k0.xs[i]'(by omega)).cells.length:=by rw [hlen];exact(List.getElem?_eq_some_iff.1 hj).1
      obtain⟨u,hu,il⟩:=q2 j _ (List.getElem?_eq_getElem fk);refine⟨u,hu,?_⟩;exact mz hs (m:=[]) (fun _ h=>h) (fun b k h hb=>by simp [lk] at hb) il (abO (g2 i _ y hx hy) hlen j _ d (List.getElem?_eq_getElem fk) hj)
 ·intro b b' k k' h h' hb ig hv A' heq;obtain⟨q,kq,e1,e2,e3,_⟩:=src b k h hb hv;obtain⟨q',Ia,f1,f2,f3,_⟩:=src b' k' h' ig A';have:=hs.inj q q' kq Ia h h' e2 f2 e3 f3 heq;subst this;exact H_ b b' q e1 f1
 ·intro b k h hb hv;obtain⟨q,kq,e1,e2,e3,_⟩:=src b k h hb hv;exact hs.ga q kq h e2 e3
 ·intro b x hx;unfold Ph.via at hx;cases hq:lk b ρ with
  |none=>simp [hq] at hx
  |some o=>
   have:=List.all_eq_true.1 A_ _ (gI hq);exact Option.isSome_iff_exists.1 this
 ·intro b k h hb hv;obtain⟨q,kq,e1,e2,e3,_⟩:=src b k h hb hv;exact⟨q,kq,e1,e2,e3⟩
def tV (ρ:cZ) (s h:St):Prop:=s.n=h.n∧pe ρ h.m=true∧pd ρ s h.t∧eT ρ s.m h.m
theorem Ep {ρ:cZ} {s:St}:∀{l:List (Nat×AV)},pd ρ s l→∀t av,(t,av)∈l→bX [] ρ (s.get t) av
 |[],_,t,av,h=>by cases h
 |(j,q)::l,hw,t,av,h=>by
  simp only [pd] at hw;rcases List.mem_cons.1 h with h|h
  ·cases h;exact hw.1
  ·exact Ep hw.2 t av h
theorem vC {ρ:cZ} {M:Mem} (h:pe ρ M=true):iV ρ=true∧(ρ.all fun p=>(lk p.1 M).isSome)=true:=by
 unfold pe at h;simp only [Bool.and_eq_true] at h;refine⟨h.1,List.all_eq_true.2 fun p hp=>?_⟩;have:=List.all_eq_true.1 h.2 p hp;simp only [Bool.and_eq_true] at this;exact this.1
theorem Ib {ρ:cZ} {M:Mem} {φ xS:Ph} (h:pe ρ M=true) (hk:∀b,1000≤b→φ b=none∨φ b=xS b):∀b,1000≤b→φ.via ρ b=none∨φ.via ρ b=xS b:=by
 intro b hb;unfold pe at h;simp only [Bool.and_eq_true] at h;unfold Ph.via;cases hq:lk b ρ with
 |none=>exact .inl rfl
 |some o=>
  have:=List.all_eq_true.1 h.2 _ (gI hq);simp only [Bool.and_eq_true,Bool.or_eq_true] at this;have cn:¬(Nat.blt b 1000=true):=by simp;omega
  have:=this.2.resolve_left cn;cases o with
  |none=>simp at this
  |some q=>
   have:=Nat.eq_of_beq_eq_true this;subst this;exact hk _ hb
theorem cW.weaken {c:Ctx} {φ:Ph} {R:Nat→Prop} {s h:St} {a:Act} {w:World} (hs:cW c φ R s a w) {ρ:cZ} (hw:tV ρ s h):cW c (φ.via ρ) R h a w:=by
 obtain⟨h1,h2,h3,h4⟩:=hw;obtain⟨i1,i2⟩:=vC h2;obtain⟨m1,m2,m3⟩:=n5 hs.m i1 i2 h4;refine⟨hs.n.trans h1,fun t av ht=>?_,m1,m2,fun b k x hb hx=>?_,hs.R0,hs.Rn,hs.Rb,hs.ext,hs.d,Ib h2 hs.gi⟩
 ·exact mz hs.m (m:=[]) (fun _ h=>h) (fun b k h hb=>by simp [lk] at hb) (hs.get t) (Ep h3 t av (gI ht))
 ·obtain⟨b0,k0,_,e1,e2⟩:=m3 b k x hb hx;exact hs.fresh b0 k0 x e1 e2
theorem dJ.weaken {c:Ctx} {s h:St} {a:Act} {w:World} (hs:dJ c s a w) {ρ:cZ} (hw:tV ρ s h):dJ c h a w:=by
 obtain⟨φ,R,q⟩:=hs;exact⟨_,_,q.weaken hw⟩
def Holds (P:Program) (f:Nat) (args:List AV) (M:Mem) (r:AV) (M':Mem):Prop:=
 ∀(w:World) (vs:Array Value) (φ:Ph) (R:Nat→Prop),args.length=vs.size→(∀(i:Nat) (c:AV) (v:Value),args[i]?=some c→vs[i]?=some v→Rel w R φ c v)→gX w R φ M→
  (∀b x,φ b=some x→∃y,lk b M=some y)→(∀n,R n→n<w.heap.size)→
  Calls P f vs w fun e w'=>∃v φ' R',e=.returned v∧Rel w' R' φ' r v∧gX w' R' φ' M'∧(∀b k h,lk b M'=some (some k)→φ' b=some (some h)→w.heap.size≤h.cY∨dj φ M h.cY)∧
   (∀b k k',lk b M=some (some k)→lk b M'=some (some k')→φ' b=φ b)∧(∀n,R n→R' n)∧(∀n,R' n→R n∨w.heap.size≤n∨dj φ M n)∧(∀n,R' n→n<w'.heap.size)∧Ext w w' (dj φ M)
def dW (P:Program) (lim:Nat) (code:Code) (Q:Exit→St→Prop) (s:St):Prop:=
 ∀(c:Ctx) (_:c.w0.heap.size=lim) (a:Act) (w:World),dJ c s a w→code.wp P (fun e a' w'=>∃s',dJ c s' a' w'∧Q e s') a w
section
variable{P:Program} {Q:Exit→St→Prop} {s:St}
theorem cV (h:Q .normal s):dW P lim .skip Q s:=fun _ _ _ _ hs=>wp_skip ⟨s,hs,h⟩
theorem aR (h:Q .ret s):dW P lim .ret Q s:=fun _ _ _ _ hs=>wp_ret ⟨s,hs,h⟩
theorem cD {id:Nat} (h:Q (.exit id) s):dW P lim (.exit id) Q s:=fun _ _ _ _ hs=>wp_exit ⟨s,hs,h⟩
def iE (next:St→Prop) (Q:Exit→St→Prop):Exit→St→Prop
 |.normal,s=>next s
 |e,s=>Q e s
theorem aD {x y:Code} (h:dW P lim x (iE (dW P lim y Q) Q) s):dW P lim (.seq x y) Q s:=by
 intro c ep a w hs;refine wp_seq (wp_mono (h c ep a w hs) ?_);rintro e a' w' ⟨s',cJ,hq⟩;cases e with
 |normal=>exact hq c ep a' w' cJ
 |_=>exact⟨s',cJ,hq⟩
theorem ar {x:Operand} {p q:Code} {b:Bool} (hx:s.ev x=.sc (.bool b)) (h1:b=true→dW P lim p Q s) (h2:b=false→dW P lim q Q s):dW P lim (.cond x p q) Q s:=by
 intro c ep a w hs;obtain⟨φ,R,dz⟩:=hs;have hr:=dz.ev x;rw [hx] at hr;exact wp_cond_split hr.gN (fun e=>h1 e c ep a w ⟨φ,R,dz⟩) (fun e=>h2 e c ep a w ⟨φ,R,dz⟩)
def pf (id:Nat) (Q:Exit→St→Prop):Exit→St→Prop
 |.exit x8,s=>if x8=id then Q .normal s else Q (.exit x8) s
 |e,s=>Q e s
theorem bn {id:Nat} {x:Code} (h:dW P lim x (pf id Q) s):dW P lim (.block id x) Q s:=by
 intro c ep a w hs;refine wp_block (wp_mono (h c ep a w hs) ?_);rintro e a' w' ⟨s',cJ,hq⟩;cases e with
 |exit x8=>
  simp only [Exit.inBlock];simp only [pf] at hq;split
  ·rename_i h;rw [if_pos h] at hq;exact⟨s',cJ,hq⟩
  ·rename_i h;rw [if_neg h] at hq;exact⟨s',cJ,hq⟩
 |_=>exact⟨s',cJ,hq⟩
theorem abP {X:Type} {body:Code} (head:X→St) (μ:X→Nat) (x0:X) (h0:∃ρ,tV ρ s (head x0))
  (step:∀x,dW P lim body (iE (fun s'=>∃x' ρ,tV ρ s' (head x')∧μ x'<μ x) Q) (head x)):dW P lim (.loop body) Q s:=by
 intro c ep a w hs;obtain⟨rY,h0⟩:=h0;have kD:=hs.weaken h0;intro b k cs
 have key:∀n x a w,μ x=n→dJ c (head x) a w→
   ∃e a' w',(∃s',dJ c s' a' w'∧Q e s')∧Arrives P (lone (b.at a (.code body::.inLoop body::k)) cs w) b k cs e a' w':=by
  intro n
  induction n using Nat.strongRecOn with
  |_ n ih=>
   intro x a w hn hx;obtain⟨e,x9,x_,⟨s1,dL,hq⟩,tW⟩:=step x c ep a w hx b (.inLoop body::k) cs;cases e with
   |normal=>
    obtain⟨x',ρ,hw,cn⟩:=hq;obtain⟨abQ,abR,abS,abT,abU⟩:=ih (μ x') (hn▸cn) x' x9 x_ rfl (dL.weaken hw);exact⟨abQ,abR,abS,abT,.of_steps (Steps.trans tW (.one step_inLoop)) abU⟩
   |exit id=>exact⟨_,x9,x_,⟨s1,dL,hq⟩,.pass (x:=.inLoop body) rfl (fun _ _=>.inl (by simp)) tW⟩
   |goto l=>exact⟨_,x9,x_,⟨s1,dL,hq⟩,.pass (x:=.inLoop body) rfl (fun _ _=>.inl (by simp)) tW⟩
   |ret=>exact⟨_,x9,x_,⟨s1,dL,hq⟩,.pass (x:=.inLoop body) rfl (fun _ _=>.inl (by simp)) tW⟩
   |panic ch=>exact⟨_,x9,x_,⟨s1,dL,hq⟩,.pass (x:=.inLoop body) rfl (fun _ _=>.inl (by simp)) tW⟩
   |outgrown=>exact⟨_,x9,x_,⟨s1,dL,hq⟩,.pass (x:=.inLoop body) rfl (fun _ _=>.inl (by simp)) tW⟩
 obtain⟨e,a',w',hq,tW⟩:=key _ x0 a w rfl kD;exact⟨e,a',w',hq,.of_steps (.one step_loop) tW⟩
theorem abV {body:Code} {h:St} (hw:∃ρ,tV ρ s h) (hh:dW P lim body Q h):dW P lim body Q s:=by
 obtain⟨ρ,hw⟩:=hw;exact fun c ep a w hs=>hh c ep a w (hs.weaken hw)
theorem iq.mono {ops:Array Oper} {K K':St→Prop} (hK:∀s,K s→K' s):∀(l:List Item) {s:St},iq P ops K l s→iq P ops K' l s
 |[],_,h=>hK _ h
 |_::l,_,h=>⟨h.1,iq.mono hK l h.2⟩
theorem abW {id:Nat} {ops:Array Oper} {draw:Bool} {r:List (Option ec)} (cL:P.follows .mixedOrders=true) (hlen:ops.toList.length=r.length) (vw:draw=true→vq ops (items 0 ops.toList r)=true) (hr:iq P ops (Q .normal) (items 0 ops.toList r) s):dW P lim (.region id ops draw) Q s:=by
 intro c ep a w hs;refine abL (K:=fun s'=>∃s0,jw s0 s'∧Q .normal s0) (c:=c) ?_ ?_ hlen cL vw (iq.mono (fun s h=>⟨s,⟨rfl,fun _=>rfl,fun _=>rfl⟩,h⟩) _ hr) hs
 ·rintro s s' h ⟨s0,h0,hq⟩;exact⟨s0,⟨h0.n.trans h.n,fun t=>(h0.t t).trans (h.t t),fun b=>(h0.m b).trans (h.m b)⟩,hq⟩
 ·rintro s a w ⟨s0,h0,hq⟩ ⟨φ,R,dz⟩;exact⟨s0,⟨φ,R,h0.symm.HS dz⟩,hq⟩
end
end Go.Ab
namespace Go.Ab
open Go.RowKit
variable{lim:Nat}
section
variable{P:Program}
def pS (P:Program) (s:St):List ResultVar→List AV→Prop
 |[],[]=>True
 |.tmp t::l,v::vs=>s.get t=v∧pS P s l vs
 |.cell a t::l,v::vs=>(∃D b i off k e,aF P t=some D∧s.get a=.ref b i off∧lk b s.m=some (some k)∧k.xs[i]?=some e∧rd D e.cells off=some v)∧pS P s l vs
 |_,_=>False
def vD:List AV→AV
 |[v]=>v
 |vs=>.cz vs
def ya (tmps:Array Value):ResultVar→Sem Value
 |.tmp t=>pure (tmps.getD t undef)
 |.cell q t=>do loadVar t (←asAddr (tmps.getD q undef))
theorem abX (fn:Func) (tmps:Array Value):results fn tmps=(do
  let vs←fn.results.mapM (ya tmps)
  pure (if h:vs.size=1 then vs[0] else .tuple vs)):=by
 have:ya tmps=(fun
   |ResultVar.tmp t=>pure (tmps.getD t undef)
   |ResultVar.cell a t=>do loadVar t (←asAddr (tmps.getD a undef))):=by funext r;cases r<;>rfl
 rw [this];rfl
theorem yb {c:Ctx} {φ:Ph} {R:Nat→Prop} {s:St} {a:Act} {w:World} (hs:cW c φ R s a w) {fn:Func} {vs:List AV} (h:pS P s fn.results.toList vs):∃v,(results fn a.tmps).run P w=.ok v w∧Rel w R φ (vD vs) v:=by
 have key:∀(rs:List ResultVar) (vs:List AV),pS P s rs vs→∃us:List Value,(rs.mapM (ya a.tmps)).run P w=.ok us w∧us.length=vs.length∧∀(i:Nat) (x:AV) (u:Value),vs[i]?=some x→us[i]?=some u→Rel w R φ x u:=by
  intro rs
  induction rs with
  |nil=>
   intro vs h;cases vs with
   |nil=>exact⟨[],by simp,rfl,fun i x u hx=>by simp at hx⟩
   |cons v vs=>simp [pS] at h
  |cons r rs ih=>
   intro vs h;cases vs with
   |nil=>cases r<;>simp [pS] at h
   |cons v vs=>
    have fin:∀(u:Value),Rel w R φ v u→pS P s rs vs→∃us:List Value,(rs.mapM (ya a.tmps)).run P w=.ok us w∧(u::us).length=(v::vs).length∧∀(i:Nat) (x:AV) (u':Value),(v::vs)[i]?=some x→(u::us)[i]?=some u'→Rel w R φ x u':=by
     intro u hu hr;obtain⟨us,h1,h2,h3⟩:=ih vs hr;refine⟨us,h1,by simp [h2],fun i x u' hx pR=>?_⟩;cases i with
     |zero=>simp at hx pR;subst hx;subst pR;exact hu
     |succ i=>exact h3 i x u' (by simpa using hx) (by simpa using pR)
    cases r with
    |tmp t=>
     simp only [pS] at h;obtain⟨us,h1,h2,h3⟩:=fin (a.tmps.getD t undef) (h.1▸hs.get t) h.2;exact⟨_,by simp only [List.mapM_cons,ya,Sem.run_bind,Sem.run_pure,Result.andThen_ok,h1],h2,h3⟩
    |cell q t=>
     simp only [pS] at h;obtain⟨⟨D,b,i,off,k,e,hD,hq,hb,he,hv⟩,Ba⟩:=h;have hr:=hs.get q;rw [hq] at hr;generalize Ic:a.tmps.getD q undef=pv at hr;cases hr with
     |@ref _ _ _ _ hm gF=>
      obtain⟨oh,gm,hbr⟩:=hs.m.rel b k hb;rw [gF] at gm;cases gm;obtain⟨_,_,_,_,C,hC,D5,iL⟩:=hbr;obtain⟨hl,nS⟩:=iL i e he
      obtain⟨u,h2,h3⟩:=Hu (P:=P) (w:=w) (R:=R) (φ:=φ) (b:=hm.cY) (o:=i*hm.cy) (off:=off) hD hv (fun j=>C[i*hm.cy+j]?.getD undef) (fun j hj=>by
        obtain⟨u,hu,_⟩:=nS j (e.cells[j]) (by simp [hj]);rw [cell_of_row w _ _ C _ _ hC,hu];rfl) (fun j c' Hv=>by
        obtain⟨u,hu,il⟩:=nS j c' Hv;rw [hu];exact il)
      obtain⟨us,h4,h5,h6⟩:=fin u h3 Ba;exact⟨_,by simp only [List.mapM_cons,ya,Sem.run_bind,Ic,asAddr,Sem.run_pure,Result.andThen_ok,h2,h4],h5,h6⟩
 obtain⟨us,h1,h2,h3⟩:=key _ vs h;rw [abX,Array.mapM_eq_mapM_toList];refine⟨if h:us.toArray.size=1 then us.toArray[0] else .tuple us.toArray,by simp only [Sem.run_bind,Sem.run_map,Sem.run_pure,h1,Result.andThen_ok],?_⟩
 match vs,us,h2 with
 |[v],[u],_=>exact h3 0 v u rfl rfl
 |[],[],_=>exact .cz rfl (fun i c v hc=>by simp at hc)
 |v1::v2::vs,u1::u2::us,h2=>
  simp only [List.size_toArray,List.length_cons,vD];rw [dif_neg (by omega)];exact .cz (by simp at h2⊢;omega) (fun i c v hc hv=>h3 i c v hc (by simpa using hv))
def Ie (ρ:cZ) (M M':Mem):Bool:=M.all fun p=>match lk p.1 M' with
 |some _=>match lk p.1 ρ with
  |some (some b)=>Nat.beq b p.1
  |_=>false
 |none=>true
def n9 (P:Program) (fn:Func) (M:Mem) (r:AV) (M':Mem) (s:St):Prop:=
 ∃vs ρ,pS P s fn.results.toList vs∧pe ρ M'=true∧Ie ρ M M'=true∧bX [] ρ (vD vs) r∧eT ρ s.m M'
def pT (F:St→Prop):Exit→St→Prop
 |.normal,s=>F s
 |.ret,s=>F s
 |_,_=>False
def tX:Nat→List AV→List (Nat×AV)
 |_,[]=>[]
 |k,a::l=>(k,a)::tX (k+1) l
theorem yc:∀(l:List AV) (k t:Nat) (av:AV),lk t (tX k l)=some av→k≤t∧l[t -k]?=some av
 |[],k,t,av,h=>by simp [tX,lk] at h
 |a::l,k,t,av,h=>by
  simp only [tX,eo] at h;split at h
  ·subst_vars;cases h;simp
  ·obtain⟨h1,h2⟩:=yc l (k+1) t av h;refine⟨by omega,?_⟩;rw [show t -k=(t -(k+1))+1 by omega]
   simpa using h2
def tY (M:Mem):Bool:=M.all fun p=>Nat.ble 1000 p.1
theorem abZ {f n:Nat} {fn:Func} {body:Code} {args:List AV} {M:Mem} {r:AV} {M':Mem} (hf:P.funcs[f]?=some fn) (hb:fn.body=some body) (hn:fn.ntmps=n) (hlen:Nat.ble args.length n=true) (hM:tY M=true)
  (h:∀lim,dW P lim body (pT (n9 P fn M r M')) {n:=n,t:=tX 0 args,m:=M}):Holds P f args M r M':=by
 intro w vs φ R n_ fW gG l8 fe;have hle:args.length≤n:=Nat.le_of_ble_eq_true hlen;refine calls_of_wp hf hb ?_
 have kD:cW ⟨w,dj φ M,R,φ,[]⟩ φ R {n:=n,t:=tX 0 args,m:=M} {tmps:=vs++Array.replicate (fn.ntmps -vs.size) undef,defers:=[]} w:=by
  refine⟨by simp [hn];omega,fun t av ht=>?_,gG,l8,fun b k x hb hx=>.inr ⟨b,k,x,hb,hx,rfl⟩,fun _ h=>h,fun _ h=>.inl h,fe,Ext.refl _ _,rfl,fun b _=>.inr rfl⟩;obtain⟨_,h2⟩:=yc args 0 t av ht;simp only [Nat.sub_zero] at h2;have cn:t<vs.size:=by rw [←n_];exact(List.getElem?_eq_some_iff.1 h2).1
  have:=fW t av vs[t] h2 (by simp [cn]);simpa [Array.getD_eq_getD_getElem?,Array.getElem?_append_left cn,cn] using this
 refine wp_mono (h w.heap.size ⟨w,dj φ M,R,φ,[]⟩ rfl _ w ⟨φ,R,kD⟩) ?_;rintro e a' w' ⟨s',⟨gH,R1,dL⟩,hq⟩
 have fin:n9 P fn M r M' s'→a'.defers=[]∧∃v,(results fn a'.tmps).run P w'=.ok v w'∧∃v0 φ' R',Ending.returned v=.returned v0∧Rel w' R' φ' r v0∧gX w' R' φ' M'∧(∀b k h,lk b M'=some (some k)→φ' b=some (some h)→w.heap.size≤h.cY∨dj φ M h.cY)∧
   (∀b k k',lk b M=some (some k)→lk b M'=some (some k')→φ' b=φ b)∧(∀n,R n→R' n)∧(∀n,R' n→R n∨w.heap.size≤n∨dj φ M n)∧(∀n,R' n→n<w'.heap.size)∧Ext w w' (dj φ M):=by
  rintro⟨gZ,ρ,f1,f2,f3,f4,f5⟩;obtain⟨v,g1,g2⟩:=yb dL f1;obtain⟨i1,i2⟩:=vC f2;obtain⟨m1,m2,m3⟩:=n5 dL.m i1 i2 f5;refine⟨dL.d,v,g1,v,gH.via ρ,R1,rfl,mz dL.m (m:=[]) (fun _ h=>h) (fun b k h hb=>by simp [lk] at hb) g2 f4,m1,fun b k x hb hx=>?_,fun b k k' h1 h2=>?_,dL.R0,dL.Rn,dL.Rb,dL.ext⟩
  ·obtain⟨b0,k0,_,e1,e2⟩:=m3 b k x hb hx;exact dL.fresh b0 k0 x e1 e2
  ·have hk:=List.all_eq_true.1 f3 _ (gI h1);simp only [h2] at hk;cases hq:lk b ρ with
   |none=>simp [hq] at hk
   |some o=>
    cases o with
    |none=>simp [hq] at hk
    |some q=>
     simp only [hq] at hk;have Bb:=Nat.eq_of_beq_eq_true hk;rw [Bb] at hq;have nV:1000≤b:=Nat.le_of_ble_eq_true (by simpa using List.all_eq_true.1 hM _ (gI h1));have Bc:=x7 f5 b k' (gI h2);simp only [hq] at Bc;obtain⟨k0,rZ,_⟩:=Bc;obtain⟨oh,ho,_⟩:=dL.m.rel b k0 rZ
     have:gH b=φ b:=by
      rcases dL.gi b nV with h|h
      ·rw [h] at ho;cases ho
      ·exact h
     simp [Ph.via,hq,this]
 cases e with
 |normal=>exact fin hq
 |ret=>exact fin hq
 |exit _=>exact hq.elim
 |goto _=>exact hq.elim
 |panic _=>exact hq.elim
 |outgrown=>exact hq.elim
end
end Go.Ab
namespace Go.Ab
open Go.RowKit
section
variable{P:Program} {o:Oper} {s:St}
def pg (fo:Operand) (xs:Array Operand) (gO:Array TypeId):Op:=.call {callee:=.value fo,args:=xs,argTypes:=gO}
def et:cZ→List Nat
 |[]=>[]
 |(_,some b)::l=>b::et l
 |(_,none)::l=>et l
theorem Er {ρ:cZ} {b' b:Nat} (h:lk b' ρ=some (some b)):b∈et ρ:=by
 induction ρ with
 |nil=>simp [lk] at h
 |cons p l ih=>
  obtain⟨j,o⟩:=p;rw [eo] at h;split at h
  ·cases h;simp [et]
  ·cases o with
   |none=>exact ih h
   |some q=>simp [et,ih h]
def lG:List Nat→Mem
 |[]=>[]
 |b::l=>(b,none)::lG l
theorem O_ (l:List Nat) (b:Nat):lk b (lG l)=if b∈l then some none else none:=by
 induction l with
 |nil=>simp [lG,lk]
 |cons x l ih=>
  simp only [lG,eo,ih,List.mem_cons];by_cases e:b=x
  ·simp [e]
  ·simp [e]
def vE (ρ:cZ) (M:Mem) (σ:cZ) (W:Mem):Bool:=W.all fun p=>match(et ρ).contains p.1 with
 |false=>true
 |true=>match lk p.1 σ with
  |some (some b')=>match lk b' ρ with
   |some (some t)=>Nat.beq t p.1&&(match lk b' M with|some (some _)=>true|_=>false)
   |_=>false
  |_=>false
def kM (ρ:cZ):Mem→List Nat
 |[]=>[]
 |(t,_)::l=>match(et ρ).contains t with
  |true=>kM ρ l
  |false=>t::kM ρ l
theorem O' {ρ:cZ}:∀{W:Mem} {t:Nat} {x:Option fc},(t,x)∈W→t∉et ρ→t∈kM ρ W
 |(j,y)::l,t,x,h,ht=>by
  simp only [kM];rcases List.mem_cons.1 h with h|h
  ·cases h;have hc:(et ρ).contains j=false:=by simpa using ht
   rw [hc];simp
  ·have:=O' h ht;split
   ·exact this
   ·exact List.mem_cons_of_mem _ this
def qT:Mem→Prop
 |[]=>True
 |(_,some k)::l=>(∀x∈k.xs,iU x=true)∧qT l
 |(_,none)::l=>qT l
theorem Ig:∀{W:Mem},qT W→∀t k,(t,some k)∈W→∀x∈k.xs,iU x=true
 |(j,some q)::l,h,t,k,hm=>by
  simp only [qT] at h;rcases List.mem_cons.1 hm with hm|hm
  ·cases hm;exact h.1
  ·exact Ig h.2 t k hm
 |(j,none)::l,h,t,k,hm=>by
  simp only [qT] at h;rcases List.mem_cons.1 hm with hm|hm
  ·cases hm
  ·exact Ig h t k hm
theorem ab0 {x:AV} (h:iU x=true):∀(j:Nat) (c:AV),x.cells[j]?=some c→iU c=true:=by
 intro j c hj;cases x with
 |agg cs=>exact A9 (cs:=cs) (by simpa [iU] using h) j c hj
 |_=>
  simp only [AV.cells] at hj;cases j with
  |zero=>simp at hj;subst hj;exact h
  |succ j=>simp at hj
def mA (ρ:cZ) (m:Mem):Mem→Prop
 |[]=>True
 |(b,some k)::l=>lk b m=some (some k)∧b∉et ρ∧mA ρ m l
 |(_,none)::_=>False
theorem yd {ρ:cZ} {m:Mem}:∀{L:Mem},mA ρ m L→∀b x,(b,x)∈L→∃k,x=some k∧lk b m=some (some k)∧b∉et ρ
 |(j,some q)::l,h,b,x,hm=>by
  simp only [mA] at h;rcases List.mem_cons.1 hm with hm|hm
  ·cases hm;exact⟨q,rfl,h.1,h.2.1⟩
  ·exact yd h.2.2 b x hm
 |(j,none)::l,h,_,_,_=>by simp [mA] at h
structure Es (w:World) (φ:Ph) (R:Nat→Prop) (M:Mem) (r:AV) (M':Mem) (w':World) (u:Value) (φ':Ph) (R':Nat→Prop):Prop where
 val:Rel w' R' φ' r u
 mem:gX w' R' φ' M'
 fresh:∀b k h,lk b M'=some (some k)→φ' b=some (some h)→w.heap.size≤h.cY∨dj φ M h.cY
 gi:∀b k k',lk b M=some (some k)→lk b M'=some (some k')→φ' b=φ b
 R0:∀n,R n→R' n
 Rn:∀n,R' n→R n∨w.heap.size≤n∨dj φ M n
 Rb:∀n,R' n→n<w'.heap.size
 ext:Ext w w' (dj φ M)
theorem Et {s':St} {gZ args:List AV} {M M' L W:Mem} {ρ σ:cZ} {r v:AV} {c:Ctx} {φ:Ph} {R:Nat→Prop} {a:Act} {w:World} {vs:Array Value} (hL:mA ρ s.m L) (fW:gP L ρ gZ args) (hi:iV ρ=true) (hk:(ρ.all fun p=>(lk p.1 M).isSome)=true) (hM:eT ρ s.m M)
  (ni:iV σ=true) (pU:(σ.all fun p=>(lk p.1 W).isSome)=true) (hW:eT σ M' W) (hv:bX [] σ r v) (n4:vE ρ M σ W=true) (mB:L≠[]→iU v=true∧qT W)
  (gk:∀b∈et ρ++L.map (·.1),lk b s'.m=lk b s.m) (jE:∀b∈kM ρ W,Fr s' b) (dz:cW c φ R s' a w) (vF:gZ.length=vs.size) (vG:∀(i:Nat) (x:AV) (u:Value),gZ[i]?=some x→vs[i]?=some u→Rel w R φ x u):
  (args.length=vs.size∧(∀(i:Nat) (c:AV) (v:Value),args[i]?=some c→vs[i]?=some v→Rel w (fun n=>R n∨dj φ L n) (φ.via ρ) c v)∧gX w (fun n=>R n∨dj φ L n) (φ.via ρ) M∧(∀b x,φ.via ρ b=some x→∃y,lk b M=some y)∧(∀n,(R n∨dj φ L n)→n<w.heap.size))∧
  ∀(dst:Option Nat) w' u φ' R',Es w (φ.via ρ) (fun n=>R n∨dj φ L n) M r M' w' u φ' R'→dJ c (s'.app dst ⟨v,W++lG (et ρ),et ρ++L.map (·.1),kM ρ W⟩) (a.put dst u) w':=by
 have vH:∀b∈et ρ,lk b s'.m=lk b s.m:=fun b hb=>gk b (by simp [hb])
 have Bd:∀b x,(b,x)∈L→∃k,x=some k∧lk b s'.m=some (some k)∧b∉et ρ:=fun b x hb=>by
  obtain⟨k,h1,h2,h3⟩:=yd hL b x hb;exact⟨k,h1,by rw [gk b (by simp;exact .inr ⟨x,hb⟩)];exact h2,h3⟩
 have hMs:eT ρ s'.m M:=by
  have:∀{M:Mem},eT ρ s.m M→eT ρ s'.m M:=by
   intro M
   induction M with
   |nil=>intro h;exact h
   |cons p l ih=>
    obtain⟨b',ok⟩:=p;cases ok with
    |none=>intro h;simp [eT] at h
    |some k=>
     intro h;simp only [eT] at h⊢;refine⟨?_,ih h.2⟩;cases hq:lk b' ρ with
     |none=>simp [hq] at h
     |some oo=>
      cases oo with
      |none=>simpa [hq] using h.1
      |some b=>
       have h1:=h.1;simp only [hq] at h1⊢;rw [vH b (Er hq)];exact h1
  exact this hM
 obtain⟨m1,m2,m3⟩:=n5 dz.m hi hk hMs;obtain⟨Rc,Be⟩:∃Rc:Nat→Prop,Rc=fun n=>R n∨dj φ L n:=⟨_,rfl⟩
 rw [←Be];have qU:∀n,Rc n↔(R n∨dj φ L n):=fun n=>by rw [Be]
 have Eu:∀b k,lk b L=some (some k)→lk b s'.m=some (some k)∧b∉et ρ:=fun b k hb=>by
  obtain⟨k',h1,h2,h3⟩:=Bd b _ (gI hb);cases h1;exact⟨h2,h3⟩
 have Ih:∀n,dj (φ.via ρ) M n→∃b k x,b∈et ρ∧lk b s'.m=some (some k)∧φ b=some (some x)∧x.cY=n:=by
  rintro n ⟨b',k',x,h1,h2,h3⟩;obtain⟨b,k,e1,e2,e3⟩:=m3 b' k' x h1 h2;exact⟨b,k,x,Er e1,e2,e3,h3⟩
 have ab2:∀n,Rc n→n<w.heap.size:=by
  intro n hh;rcases(qU n).1 hh with(h|⟨b,k,x,h1,h2,rfl⟩)
  ·exact dz.Rb n h
  ·exact dz.lt (Eu b k h1).1 h2
 have gG:gX w Rc (φ.via ρ) M:=by
  refine⟨fun b k hb=>?_,m1.inj,fun b k x hb hx=>?_,m1.gl.mono (fun _ _=>rfl) (fun _ h=>(qU _).2 (.inl h))⟩
  ·obtain⟨oh,h1,h2⟩:=m1.rel b k hb;refine⟨oh,h1,?_⟩;cases oh with
   |none=>exact h2
   |some x=>
    obtain⟨r1,r2,r3,r4,C,r5,r6,r7⟩:=h2;refine⟨r1,r2,r3,r4,C,r5,r6,fun i y hy=>⟨(r7 i y hy).1,fun j c' hj=>?_⟩⟩;obtain⟨u,hu,hr⟩:=(r7 i y hy).2 j c' hj;exact⟨u,hu,hr.mono (fun _ _=>rfl) (fun _ h=>(qU _).2 (.inl h)) (fun _ _ h=>h)⟩
  ·intro hh;rcases(qU _).1 hh with(h|⟨b1,k1,x1,h1,h2,h3⟩)
   ·exact m1.ga b k x hb hx h
   ·obtain⟨b0,k0,e1,e2,e3⟩:=m3 b k x hb hx;have:=dz.m.inj b1 b0 k1 k0 x1 x (Eu b1 k1 h1).1 e2 h2 e3 h3;subst this;exact(Eu b1 k1 h1).2 (Er e1)
 obtain⟨al,ab3⟩:=l0 fW;refine⟨⟨by rw [←al,vF],fun i d u hd hu=>?_,gG,m2,fun n h=>ab2 n ((qU n).2 h)⟩,?_⟩
 ·have cn:=(List.getElem?_eq_some_iff.1 hd).1;have hx:gZ[i]?=some (gZ[i]'(by omega)):=List.getElem?_eq_getElem (by omega)
  exact mz dz.m (m:=L) (fun _ h=>(qU _).2 (.inl h)) (fun b k x hb hx=>⟨(Eu b k hb).1,(qU _).2 (.inr ⟨b,k,x,hb,hx,rfl⟩)⟩) (vG i _ u hx hu) (ab3 i _ d hx hd)
 ·rintro dst w' u φ' R' ⟨il,Pa,ab4,ab5,Pb,ab6,ab7,Ev⟩;obtain⟨n1,n2,n3⟩:=n5 Pa ni pU hW
  have Ew:∀b k x,lk b s'.m=some (some k)→φ b=some (some x)→b∉et ρ→¬dj (φ.via ρ) M x.cY:=by
   intro b k x hb hx r8 hp;obtain⟨b1,k1,x1,h1,h2,h3,h4⟩:=Ih _ hp;have:=dz.m.inj b1 b k1 k x1 x h2 hb h3 hx h4;subst this;exact r8 h1
  have oa:∀n,R n→w'.heap[n]?=w.heap[n]?:=by
   intro n ye;refine Ev.block n (dz.Rb n ye) fun hp=>?_
   obtain⟨b1,k1,x1,h1,h2,h3,h4⟩:=Ih _ hp;exact dz.m.ga b1 k1 x1 h2 h3 (h4▸ye)
  let jH:Ph:=fun b=>match φ'.via σ b with
   |some x=>some x
   |none=>φ b
  have Bf:∀t x,φ'.via σ t=some x→∃y,lk t W=some y:=n2
  have Pc:∀t y,lk t W=some y→t∉et ρ→Fr s' t:=fun t y hy ht=>jE t (O' (gI hy) ht)
  have ab8:∀t y,lk t W=some y→t∈et ρ→∃b' k',lk t σ=some (some b')∧lk b' ρ=some (some t)∧lk b' M=some (some k'):=by
   intro t y hy ht;have:=List.all_eq_true.1 n4 _ (gI hy);have hc:(et ρ).contains t=true:=by simpa using ht
   simp only [hc] at this;cases h1:lk t σ with
   |none=>simp [h1] at this
   |some o1=>
    cases o1 with
    |none=>simp [h1] at this
    |some b'=>
     simp only [h1] at this;cases h2:lk b' ρ with
     |none=>simp [h2] at this
     |some o2=>
      cases o2 with
      |none=>simp [h2] at this
      |some t'=>
       simp only [h2,Bool.and_eq_true] at this;have qV:=Nat.eq_of_beq_eq_true this.1;subst qV;cases h3:lk b' M with
       |none=>simp [h3] at this
       |some o3=>
        cases o3 with
        |none=>simp [h3] at this
        |some k'=>exact⟨b',k',rfl,h2,h3⟩
  have Pd:∀t x,t∈et ρ→φ'.via σ t=some x→φ t=some x:=by
   intro t x ht hx;obtain⟨y,hy⟩:=Bf t x hx;obtain⟨b',k',h1,h2,h3⟩:=ab8 t y hy ht;simp only [Ph.via,h1] at hx
   have hyk:∃kk,lk b' M'=some (some kk):=by
    cases y with
    |none=>
     exfalso
     have:∀{W:Mem},eT σ M' W→lk t W≠some none:=by
      intro W
      induction W with
      |nil=>intro _ h;simp [lk] at h
      |cons p l ih=>
       obtain⟨j,q⟩:=p;cases q with
       |none=>intro h;simp [eT] at h
       |some q=>
        intro h hh;rw [eo] at hh;split at hh
        ·cases hh
        ·simp only [eT] at h;exact ih h.2 hh
     exact this hW hy
    |some kk=>
     have:=x7 hW t kk (gI hy);simp only [h1] at this;obtain⟨k0,rZ,_⟩:=this;exact⟨k0,rZ⟩
   obtain⟨kk,tZ⟩:=hyk;rw [ab5 b' k' kk h3 tZ] at hx;simpa [Ph.via,h2] using hx
  have ab_:∀t,Fr s' t→φ t=none:=by
   intro t ht;cases hq:φ t with
   |none=>rfl
   |some y=>obtain⟨z,hz⟩:=dz.gM t y hq;rw [ht.1] at hz;cases hz
  have Ii:∀b x,φ b=some x→jH b=some x:=by
   intro b x hx;show(match φ'.via σ b with|some x=>some x|none=>φ b)=some x
   cases hq:φ'.via σ b with
   |none=>exact hx
   |some y=>
    obtain⟨z,hz⟩:=Bf b y hq;by_cases hb:b∈et ρ
    ·rw [Pd b y hb hq] at hx;exact hx
    ·rw [ab_ b (Pc b z hz hb)] at hx;cases hx
  have Ex:∀b x,φ'.via σ b=some x→jH b=some x:=by
   intro b x hx;show(match φ'.via σ b with|some x=>some x|none=>φ b)=some x
   rw [hx]
  have ash:∀b x y,lk b W=some y→jH b=some x→φ'.via σ b=some x∨(φ'.via σ b=none∧φ b=some x):=by
   intro b x y hy hx;have je:(match φ'.via σ b with|some x=>some x|none=>φ b)=some x:=hx
   cases hq:φ'.via σ b with
   |none=>rw [hq] at je;exact .inr ⟨rfl,je⟩
   |some z=>rw [hq] at je;exact .inl je
  have hWv:∀b k,lk b W=some (some k)→∃oh,φ'.via σ b=some oh:=fun b k hb=>by
   obtain⟨oh,h1,_⟩:=n1.rel b k hb;exact⟨oh,h1⟩
  have split:∀b k,lk b ((W++lG (et ρ))++s'.m)=some (some k)→lk b W=some (some k)∨(lk b W=none∧b∉et ρ∧lk b s'.m=some (some k)):=by
   intro b k hb;rw [qO,qO,O_] at hb;cases h1:lk b W with
   |some y=>rw [h1] at hb;simp at hb;subst hb;exact .inl rfl
   |none=>
    rw [h1] at hb;by_cases h2:b∈et ρ
    ·simp [h2] at hb
    ·simp [h2] at hb;exact .inr ⟨rfl,h2,hb⟩
  have Ij:∀b k x,lk b W=some (some k)→φ'.via σ b=some (some x)→w.heap.size≤x.cY∨dj (φ.via ρ) M x.cY:=by
   intro b k x hb hx;obtain⟨b0,k0,e1,e2,e3⟩:=n3 b k x hb hx;exact ab4 b0 k0 x e2 e3
  have yf:∀b k x,lk b W=some (some k)→jH b=some (some x)→φ'.via σ b=some (some x):=by
   intro b k x hb hx;obtain⟨oh,nW⟩:=hWv b k hb;have:=Ex b oh nW;rw [this] at hx;rw [nW];exact hx
  have yg:∀b x,lk b W=none→jH b=some x→φ b=some x:=by
   intro b x hb hx;have je:(match φ'.via σ b with|some x=>some x|none=>φ b)=some x:=hx
   cases hq:φ'.via σ b with
   |none=>rw [hq] at je;exact je
   |some z=>obtain⟨y,hy⟩:=Bf b z hq;rw [hb] at hy;cases hy
  have Ik:∀n,dj (φ.via ρ) M n→c.w0.heap.size≤n∨c.G n:=by
   intro n hp;obtain⟨b1,k1,x1,h1,h2,h3,h4⟩:=Ih _ hp;rw [←h4];exact dz.fresh b1 k1 x1 h2 h3
  have Pe:c.w0.heap.size≤w.heap.size:=dz.ext.size
  have main:∀R2:Nat→Prop,(∀n,R n→R2 n)→(∀n,R2 n→R n∨(R' n∧(w.heap.size≤n∨dj (φ.via ρ) M n)))→(∀n,R2 n→n<w'.heap.size)→
    (∀b k,lk b W=some (some k)→∀x∈k.xs,∀(j:Nat) (d:AV) (u:Value),x.cells[j]?=some d→Rel w' R' (φ'.via σ) d u→Rel w' R2 (φ'.via σ) d u)→Rel w' R2 (φ'.via σ) v u→
    dJ c (s'.app dst ⟨v,W++lG (et ρ),et ρ++L.map (·.1),kM ρ W⟩) (a.put dst u) w':=by
   intro R2 t_ Il aca acb Ey;refine⟨jH,R2,?_⟩;refine cW.app (s:=s') (m:=(W++lG (et ρ))++s'.m) ?_ dst (Ey.mono (fun _ _=>rfl) (fun _ h=>h) Ex);have hold:∀b k x,lk b s'.m=some (some k)→φ b=some (some x)→b∉et ρ→w'.heap[x.cY]?=w.heap[x.cY]?:=fun b k x hb hx r8=>Ev.block _ (dz.lt hb hx) (Ew b k x hb hx r8)
   refine⟨dz.n,fun t av ht=>(dz.t t av ht).mono oa t_ Ii,⟨?_,?_,?_,dz.m.gl.mono oa t_⟩,?_,?_,fun n ye=>t_ n (dz.R0 n ye),?_,aca,?_,dz.d,?_⟩
   ·intro b k hb;rcases split b k hb with hb|⟨yh,ph,ua⟩
    ·obtain⟨oh,h1,h2⟩:=n1.rel b k hb;refine⟨oh,Ex b oh h1,?_⟩;cases oh with
     |none=>exact h2
     |some x=>
      obtain⟨r1,r2,r3,r4,C,r5,r6,r7⟩:=h2;refine⟨r1,r2,r3,r4,C,r5,r6,fun i y hy=>⟨(r7 i y hy).1,fun j d hj=>?_⟩⟩;obtain⟨q,hq,hr⟩:=(r7 i y hy).2 j d hj;exact⟨q,hq,(acb b k hb y (List.mem_of_getElem? hy) j d q hj hr).mono (fun _ _=>rfl) (fun _ h=>h) Ex⟩
    ·obtain⟨oh,h1,h2⟩:=dz.m.rel b k ua;refine⟨oh,Ii b oh h1,?_⟩;cases oh with
     |none=>exact h2
     |some x=>
      obtain⟨r1,r2,r3,r4,C,r5,r6,r7⟩:=h2;refine⟨r1,r2,r3,r4,C,by rw [hold b k x ua h1 ph];exact r5,r6,fun i y hy=>⟨(r7 i y hy).1,fun j d hj=>?_⟩⟩;obtain⟨q,hq,hr⟩:=(r7 i y hy).2 j d hj;exact⟨q,hq,hr.mono oa t_ Ii⟩
   ·intro b1 b2 k1 k2 y1 y2 h1 h2 e1 e2 heq;rcases split b1 k1 h1 with h1|⟨Pf,Bg,Im⟩<;>rcases split b2 k2 h2 with h2|⟨Pg,h22,Bh⟩
    ·exact n1.inj b1 b2 k1 k2 y1 y2 h1 h2 (yf b1 k1 y1 h1 e1) (yf b2 k2 y2 h2 e2) heq
    ·exfalso;have f2:=yg b2 _ Pg e2;rcases Ij b1 k1 y1 h1 (yf b1 k1 y1 h1 e1) with h|h
     ·have:=dz.lt Bh f2;omega
     ·rw [heq] at h;exact Ew b2 k2 y2 Bh f2 h22 h
    ·exfalso;have f1:=yg b1 _ Pf e1;rcases Ij b2 k2 y2 h2 (yf b2 k2 y2 h2 e2) with h|h
     ·have:=dz.lt Im f1;omega
     ·rw [←heq] at h;exact Ew b1 k1 y1 Im f1 Bg h
    ·exact dz.m.inj b1 b2 k1 k2 y1 y2 Im Bh (yg b1 _ Pf e1) (yg b2 _ Pg e2) heq
   ·intro b k x hb hx Pj;rcases split b k hb with hb|⟨yh,ph,ua⟩
    ·have je:=yf b k x hb hx;have Pk:=n1.ga b k x hb je;rcases Il _ Pj with h|⟨h,_⟩
     ·exact Pk (Pb _ ((qU _).2 (.inl h)))
     ·exact Pk h
    ·have je:=yg b _ yh hx;rcases Il _ Pj with h|⟨_,h|h⟩
     ·exact dz.m.ga b k x ua je h
     ·have:=dz.lt ua je;omega
     ·exact Ew b k x ua je ph h
   ·intro b x hx;have je:(match φ'.via σ b with|some x=>some x|none=>φ b)=some x:=hx
    rw [qO,qO];cases hq:φ'.via σ b with
    |some z=>obtain⟨y,hy⟩:=Bf b z hq;exact⟨y,by rw [hy];simp⟩
    |none=>
     rw [hq] at je;obtain⟨y,hy⟩:=dz.gM b x je;cases h1:(lk b W).or (lk b (lG (et ρ))) with
     |none=>exact⟨y,by rw [hy];rfl⟩
     |some z=>exact⟨z,rfl⟩
   ·intro b k x hb hx;rcases split b k hb with hb|⟨yh,ph,ua⟩
    ·rcases Ij b k x hb (yf b k x hb hx) with h|h
     ·exact .inl (Nat.le_trans Pe h)
     ·exact Ik _ h
    ·exact dz.fresh b k x ua (yg b _ yh hx)
   ·intro n ye;rcases Il n ye with h|⟨_,h|h⟩
    ·exact dz.Rn n h
    ·exact .inr (.inl (Nat.le_trans Pe h))
    ·exact .inr (Ik n h)
   ·exact dz.ext.trans Ev (fun i hi hp=>(Ik i hp).resolve_left (by omega))
   ·intro b hb;have Ez:jH b=(match φ'.via σ b with|some x=>some x|none=>φ b):=rfl
    cases hq:φ'.via σ b with
    |none=>rw [Ez,hq];exact dz.gi b hb
    |some z=>
     obtain⟨y,hy⟩:=Bf b z hq;by_cases r8:b∈et ρ
     ·have:=Pd b z r8 hq;have h2:jH b=φ b:=by rw [Ez,hq];exact this.symm
      rw [h2];exact dz.gi b hb
     ·have:=(Pc b y hy r8).2;omega
  have Ey:=mz (R':=R') Pa (m:=[]) (fun _ h=>h) (fun b k h hb=>by simp [lk] at hb) il hv;by_cases Pl:L=[]
  ·refine main R' (fun n h=>Pb n ((qU _).2 (.inl h))) (fun n h=>?_) ab7 (fun _ _ _ _ _ _ _ _ _ h=>h) Ey;rcases(ab6 n h).imp_left (qU n).1 with(h1|⟨b,k,x,h1,_⟩)|h1|h1
   ·exact .inl h1
   ·rw [Pl] at h1;simp [lk] at h1
   ·exact .inr ⟨h,.inl h1⟩
   ·exact .inr ⟨h,.inr h1⟩
  ·obtain⟨s1,s2⟩:=mB Pl;refine main R (fun _ h=>h) (fun n h=>.inl h) (fun n h=>Nat.lt_of_lt_of_le (dz.Rb n h) Ev.size) (fun b k hb x hx j d u' hj hr=>?_) (Ey.iU s1);exact hr.iU (ab0 (Ig s2 b k (gI hb) x hx) j d hj)
theorem EA {f:Nat} {fn:Func} {fo:Operand} {xs:Array Operand} {gO:Array TypeId} {fs cs gZ args:List AV} {M M' L W:Mem} {ρ σ:cZ} {r v:AV} (ho:o.op=pg fo xs gO) (yi:P.funcs[f]?=some fn) (ace:(fn.name== "runtime.NumGoroutine")=false) (Io:fn.body.isNone=false)
  (mC:s.ev fo=.db f fs cs) (pj:fs++xs.toList.map s.ev++cs=gZ) (H:Holds P f args M r M') (hL:mA ρ s.m L) (fW:gP L ρ gZ args) (hi:iV ρ=true) (hk:(ρ.all fun p=>(lk p.1 M).isSome)=true) (hM:eT ρ s.m M)
  (ni:iV σ=true) (pU:(σ.all fun p=>(lk p.1 W).isSome)=true) (hW:eT σ M' W) (hv:bX [] σ r v) (n4:vE ρ M σ W=true) (mB:L≠[]→iU v=true∧qT W):
  di P o s ⟨v,W++lG (et ρ),et ρ++L.map (·.1),kM ρ W⟩:=by
 intro s' hn ca gk jE c a w next Q hs ub
 obtain⟨φ,R,dz⟩:=hs;have Ip:=dz.ev fo;rw [ca fo (by simp [ho,pg,Op.operands,Call.operands]),mC] at Ip;generalize hq:a.eval fo=q at Ip;cases Ip with
 |@db _ _ _ _ fv cv Iq iM Bi vI=>
  have gn:(execOp a.eval o).run P w=.ok (.enter f (fv++xs.map a.eval++cv)) w:=by
   have Ir:¬(fn.name= "runtime.NumGoroutine"):=by simpa using ace
   have Is:¬(fn.body=none):=by intro h;simp [h] at Io
   simp [execOp,ho,pg,resolve,hq,Deferred.ofValue,invoke,callFunc,yi,Ir,Is]
  unfold Oper.wp;rw [gn];simp only [Oper.upon]
  have vF:gZ.length=(fv++xs.map a.eval++cv).size:=by
   rw [←pj];simp [Iq,iM]
  have vG:∀(i:Nat) (x:AV) (u:Value),gZ[i]?=some x→(fv++xs.map a.eval++cv)[i]?=some u→Rel w R φ x u:=by
   intro i x u hx hu;rw [←pj] at hx;rw [List.append_assoc] at hx;rw [Array.append_assoc] at hu;by_cases h1:i<fs.length
   ·rw [List.getElem?_append_left h1] at hx;rw [Array.getElem?_append_left (by omega)] at hu;exact Bi i x u hx hu
   ·rw [List.getElem?_append_right (by omega)] at hx;rw [Array.getElem?_append_right (by omega),←Iq] at hu;by_cases h2:i -fs.length<xs.size
    ·rw [List.getElem?_append_left (by simpa using h2),List.getElem?_map,Array.getElem?_toList] at hx;rw [Array.getElem?_append_left (by simpa using h2),Array.getElem?_map] at hu;cases hy:xs[i -fs.length]?with
     |none=>simp [hy] at hx
     |some y=>
      simp [hy] at hx hu;subst hx;subst hu;have:=dz.ev y;rwa [ca y (by simp [ho,pg,Op.operands,Call.operands];exact .inr (Array.mem_of_getElem? hy))] at this
    ·rw [List.getElem?_append_right (by simp;omega)] at hx;rw [Array.getElem?_append_right (by simp;omega)] at hu;exact vI _ x u hx (by simpa using hu)
  obtain⟨⟨q1,q2,q3,q4,q5⟩,q6⟩:=Et (s:=s) (s':=s') hL fW hi hk hM ni pU hW hv n4 mB (fun b hb=>gk b hb) jE dz vF vG;refine(H w _ _ _ q1 q2 q3 q4 q5).mono ?_;rintro e w' ⟨u,φ',R',rfl,h1,h2,h3,h4,h5,h6,h7,h8⟩;exact ub _ _ (q6 o.dst w' u φ' R' ⟨h1,h2,h3,h4,h5,h6,h7,h8⟩)
end
abbrev TT:=List (Nat×af)
def fK (P:Program) (tt:TT):Prop:=∀t d,lk t tt=some d→aF P t=some d
theorem acf (P:Program):fK P []:=fun t d h=>by simp [lk] at h
theorem aM {P:Program} {t:Nat} {d:af} {l:TT} (h:aF P t=some d) (hl:fK P l):fK P ((t,d)::l):=by
 intro t' d' h';rw [eo] at h';split at h'
 ·subst_vars;cases h';exact h
 ·exact hl t' d' h'
def force:AV→Option AV
 |.bot=>some .bot
 |.sc v=>some (.sc v)
 |.b9=>some .b9
 |.agg cs=>some (.agg cs)
 |.cz cs=>some (.cz cs)
 |.sl xs=>some (.sl xs)
 |.vp cs=>some (.vp cs)
 |.ref b i off=>some (.ref b i off)
 |.arr b off len=>some (.arr b off len)
 |.db f a b=>some (.db f a b)
 |.jb d r ks=>some (.jb d r ks)
 |.ju xs=>some (.ju xs)
theorem force_eq {a v:AV} (h:force a=some v):a=v:=by cases a<;>simp [force] at h<;>exact h
def r9 (s:St):List (Nat×Operand)→Option (List (Nat×AV))
 |[]=>some []
 |(i,x)::l=>match force (s.ev x) with
  |none=>none
  |some v=>match r9 s l with
   |none=>none
   |some r=>some ((i,v)::r)
theorem It (s:St):∀(l:List (Nat×Operand)) (r:List (Nat×AV)),r9 s l=some r→nU s l=r
 |[],r,h=>by simp [r9] at h;subst h;rfl
 |(i,x)::l,r,h=>by
  simp only [r9] at h;cases h1:force (s.ev x) with
  |none=>simp [h1] at h
  |some v=>
   cases h2:r9 s l with
   |none=>simp [h1,h2] at h
   |some q=>
    simp [h1,h2] at h;subst h;simp [nU,It s l q h2,force_eq h1]
def oc (s:St):List Operand→Option (List AV)
 |[]=>some []
 |x::l=>match force (s.ev x) with
  |none=>none
  |some v=>match oc s l with
   |none=>none
   |some r=>some (v::r)
theorem uc (s:St):∀(l:List Operand) (r:List AV),oc s l=some r→l.map s.ev=r
 |[],r,h=>by simp [oc] at h;subst h;rfl
 |x::l,r,h=>by
  simp only [oc] at h;cases h1:force (s.ev x) with
  |none=>simp [h1] at h
  |some v=>
   cases h2:oc s l with
   |none=>simp [h1,h2] at h
   |some q=>
    simp [h1,h2] at h;subst h;simp [uc s l q h2,force_eq h1]
def nj:List AV→Nat→Option AV
 |[],_=>none
 |x::_,0=>force x
 |_::l,n+1=>nj l n
theorem yj:∀(l:List AV) (n:Nat) (x:AV),nj l n=some x→l[n]?=some x
 |[],n,x,h=>by simp [nj] at h
 |y::l,0,x,h=>by simp only [nj] at h;simp [force_eq h]
 |y::l,n+1,x,h=>by simp only [nj] at h;simpa using yj l n x h
def r_:List AV→Nat→AV→Option (List AV)
 |[],_,_=>none
 |_::l,0,v=>some (v::l)
 |x::l,n+1,v=>match r_ l n v with
  |none=>none
  |some r=>some (x::r)
theorem Pm:∀(l:List AV) (n:Nat) (v:AV) (r:List AV),r_ l n v=some r→l.set n v=r
 |[],n,v,r,h=>by simp [r_] at h
 |y::l,0,v,r,h=>by simp [r_] at h;subst h;rfl
 |y::l,n+1,v,r,h=>by
  simp only [r_] at h;cases h1:r_ l n v with
  |none=>simp [h1] at h
  |some q=>simp [h1] at h;subst h;simp [Pm l n v q h1]
def vJ:List (Nat×Nat)→Nat→Option (Nat×Nat)
 |[],_=>none
 |(a,b)::_,0=>some (a,b)
 |_::l,n+1=>vJ l n
theorem Pn:∀(l:List (Nat×Nat)) (n:Nat),vJ l n=l[n]?
 |[],n=>by simp [vJ]
 |(a,b)::l,0=>by simp [vJ]
 |y::l,n+1=>by simp only [vJ];rw [Pn l n];simp
def Bj:IntKind→IntKind→Bool
 |.i8,.i8|.i16,.i16|.i32,.i32|.i64,.i64|.u8,.u8|.u16,.u16|.u32,.u32|.u64,.u64=>true
 |_,_=>false
theorem Iu {a b:IntKind} (h:Bj a b=true):a=b:=by cases a<;>cases b<;>first|rfl|(simp [Bj] at h)
def sa (i:Int) (n:Nat):Option Nat:=match i with
 |.ofNat k=>match Nat.blt k n with
  |true=>some k
  |false=>none
 |.negSucc _=>none
theorem EB {i:Int} {n k:Nat} (h:sa i n=some k):0≤i∧i<n∧i.toNat=k:=by
 unfold sa at h;split at h
 ·rename_i q;cases hb:Nat.blt q n with
  |false=>simp [hb] at h
  |true=>
   simp [hb] at h;subst h;have:q<n:=by simpa using hb
   refine⟨by simp,by simp;omega,by simp⟩
 ·cases h
def vK:Int→Bool
 |.ofNat k=>Nat.blt 0 k
 |.negSucc _=>false
theorem EC {i:Int} (h:vK i=true):i≠0∧0≤i:=by
 cases i with
 |ofNat k=>
  have:0<k:=by simpa [vK] using h
  exact⟨by simp;omega,by simp⟩
 |negSucc k=>simp [vK] at h
def val (v:AV):ec:=⟨v,[],[],[]⟩
def Iv (tt:TT) (T:Nat) (s:St) (p:AV):Option ec:=
 match lk T tt with
 |none=>none
 |some D=>match p with
  |.vp cs=>match rd D cs 0 with
   |some v=>some (val v)
   |none=>none
  |.ref b i off=>match lk b s.m with
   |some (some k)=>match nj k.xs i with
    |some e=>match rd D e.cells off with
     |some v=>some ⟨v,[],[b],[]⟩
     |none=>none
    |none=>none
   |_=>none
  |_=>none
def Iw (tt:TT) (T:Nat) (s:St) (p v:AV):Option ec:=
 match lk T tt with
 |none=>none
 |some D=>match p with
  |.ref b i off=>match lk b s.m with
   |some (some ⟨ty,cy,xs⟩)=>match nj xs i with
    |some e=>match v with
     |.bot=>none
     |v=>match Nat.beq v.cells.length D.size&&v.cells.all AV.k9 with
      |false=>none
      |true=>match tK e off v.cells with
       |none=>none
       |some e'=>match r_ xs i e' with
        |none=>none
        |some ED=>some ⟨.cz [],[(b,some ⟨ty,cy,ED⟩)],[b],[]⟩
    |none=>none
   |_=>none
  |_=>none
def Ix (tt:TT) (t j:Nat) (p:AV):Option ec:=
 match lk t tt with
 |none=>none
 |some D=>match D.k with
  |.struct fs=>match vJ fs j with
   |none=>none
   |some (fo,fz)=>match Nat.blt 0 fz with
    |false=>none
    |true=>match p with
     |.ref b i off=>some (val (.ref b i (off+fo)))
     |.vp cs=>match kL cs fo with
      |some l=>some (val (.vp l))
      |none=>none
     |_=>none
  |_=>none
def Iy (tt:TT) (t:Nat) (s:St) (p ix:AV):Option ec:=
 match lk t tt with
 |none=>none
 |some D=>match ix with
  |.sc (.int _ i)=>match D.k with
   |.slice e=>match lk e tt with
    |none=>none
    |some E=>match p with
     |.sl xs=>match sa i xs.length with
      |none=>none
      |some n=>match nj xs n with
       |none=>none
       |some ev=>match Nat.beq ev.cells.length E.size with
        |true=>some (val (.vp ev.cells))
        |false=>none
     |.arr b off len=>match sa i len with
      |none=>none
      |some n=>match lk b s.m with
       |some (some k)=>match Nat.beq k.cy E.size with
        |true=>some ⟨.ref b (off+n) 0,[],[b],[]⟩
        |false=>none
       |_=>none
     |_=>none
   |.array n e=>match lk e tt with
    |none=>none
    |some E=>match sa i n with
     |none=>none
     |some q=>match p with
      |.ref b j off=>some (val (.ref b j (off+q*E.size)))
      |.vp cs=>match kL cs (q*E.size) with
       |some l=>some (val (.vp l))
       |none=>none
      |_=>none
   |_=>none
  |_=>none
def Iz (tt:TT) (t:Nat) (s:St) (parts:Array (Nat×Operand)):Option ec:=
 match lk t tt with
 |none=>none
 |some D=>match r9 s parts.toList with
  |none=>none
  |some ps=>match D.k with
   |.struct fs=>match D_ fs with
    |false=>none
    |true=>match nf (fun j=>fs[j]?) D.zero.cells ps with
     |some l=>some (val (.agg l))
     |none=>none
   |.array _ e=>match lk e tt with
    |none=>none
    |some E=>match nf (fun j=>some (j*E.size,E.size)) D.zero.cells ps with
     |some l=>some (val (.agg l))
     |none=>none
   |_=>none
def IA (tt:TT) (t len:Nat) (s:St) (parts:Array (Nat×Operand)) (dst:Option Nat):Option ec:=
 match dst with
 |none=>none
 |some d=>match lk t tt with
  |none=>none
  |some D=>match D.k with
   |.slice e=>match lk e tt with
    |none=>none
    |some E=>match Nat.blt 0 E.size&&Nat.ble (len*E.size) 16777216 with
     |false=>none
     |true=>match r9 s parts.toList with
      |none=>none
      |some ps=>match nf (fun j=>some (j*E.size,E.size)) (qQ E.zero.cells len) ps with
       |none=>none
       |some l=>match group E.k.isAgg E.size len l with
        |none=>none
        |some xs=>some ⟨.arr d 0 len,[(d,some ⟨e,E.size,xs⟩)],[],[d]⟩
   |_=>none
def IB (op:BinOp) (x y:AV):Option ec:=
 match x,y with
 |.sc (.int k a),.sc (.int k' b)=>match op with
  |.shl=>match vK b with
   |true=>some (val (.sc (.int k (k.wrap (a*2^(min b.toNat k.bits))))))
   |false=>none
  |.shr=>match vK b with
   |true=>some (val (.sc (.int k (a.fdiv (2^(min b.toNat k.bits))))))
   |false=>none
  |op=>match Bj k k' with
   |false=>none
   |true=>match op with
    |.quo=>match vK b with
     |true=>some (val (.sc (.int k (k.wrap (a.tdiv b)))))
     |false=>none
    |.rem=>match vK b with
     |true=>some (val (.sc (.int k (a.tmod b))))
     |false=>none
    |op=>match Ea op k a b with
     |some v=>some (val (.sc v))
     |none=>none
 |.sc (.string a),.sc (.string b)=>match AY op a b with
  |some v=>some (val (.sc v))
  |none=>none
 |_,_=>none
def EE (tt:TT) (b:Builtin) (args:List AV) (gO:List Nat):Option ec:=
 match b,args,gO with
 |.len,[v],[t]=>match lk t tt with
  |none=>none
  |some D=>match D.k with
   |.slice _=>match AZ v with
    |some n=>some (val (.sc (.int .i64 n)))
    |none=>none
   |.str=>match v with
    |.sc (.string st)=>some (val (.sc (.int .i64 st.size)))
    |_=>none
   |.array n _=>some (val (.sc (.int .i64 n)))
   |_=>none
 |.max,[.sc (.int k m),.sc (.int k' n)],_=>match Bj k k' with
  |true=>some (val (.sc (.int k (max m n))))
  |false=>none
 |.min,[.sc (.int k m),.sc (.int k' n)],_=>match Bj k k' with
  |true=>some (val (.sc (.int k (min m n))))
  |false=>none
 |_,_,_=>none
def EF (tt:TT) (o:Oper) (s:St):Option ec:=
 match o.op with
 |.move x=>match force (s.ev x) with
  |some v=>some (val v)
  |none=>none
 |.assign x=>match force (s.ev x) with
  |some v=>some (val v)
  |none=>none
 |.pick x y z=>match s.ev x with
  |.sc (.bool true)=>match force (s.ev y) with
   |some v=>some (val v)
   |none=>none
  |.sc (.bool false)=>match force (s.ev z) with
   |some v=>some (val v)
   |none=>none
  |_=>none
 |.alloc T=>match o.dst with
  |none=>none
  |some d=>match lk T tt with
   |none=>none
   |some ⟨_,size,_,zero⟩=>match Nat.blt 0 size with
    |true=>some ⟨.ref d 0 0,[(d,some ⟨T,size,[zero]⟩)],[],[d]⟩
    |false=>none
 |.box T x=>match o.dst with
  |none=>none
  |some d=>match lk T tt with
   |none=>none
   |some ⟨_,size,_,_⟩=>match s.ev x with
    |.bot=>none
    |v=>match Nat.beq v.cells.length size&&Nat.blt 0 size with
     |true=>match force v with
      |some v=>some ⟨.ref d 0 0,[(d,some ⟨T,size,[v]⟩)],[],[d]⟩
      |none=>none
     |false=>none
 |.load T x=>Iv tt T s (s.ev x)
 |.store T x y=>Iw tt T s (s.ev x) (s.ev y)
 |.fieldAddr t x j=>Ix tt t j (s.ev x)
 |.indexAddr t x y=>Iy tt t s (s.ev x) (s.ev y)
 |.build t parts=>Iz tt t s parts
 |.buildSlice t len parts=>IA tt t len s parts o.dst
 |.extract x i=>match s.ev x with
  |.cz cs=>match nj cs i with
   |some v=>some (val v)
   |none=>none
  |_=>none
 |.binOp op _ x y _=>IB op (s.ev x) (s.ev y)
 |.unOp op _ x=>match s.ev x with
  |.sc v=>match Eb op v with
   |some u=>some (val (.sc u))
   |none=>none
  |_=>none
 |.convert t1 t2 x=>match lk t1 tt,lk t2 tt,s.ev x with
  |some D1,some D2,.sc (.int _ n)=>match D1.k,D2.k with
   |.int _,.int k2=>some (val (.sc (.int k2 (k2.wrap n))))
   |_,_=>none
  |_,_,_=>none
 |.index t x y=>match lk t tt with
  |none=>none
  |some D=>match D.k,s.ev x,s.ev y with
   |.array n e,.agg cs,.sc (.int _ i)=>match lk e tt with
    |none=>none
    |some E=>match sa i n with
     |none=>none
     |some q=>match rd E cs (q*E.size) with
      |some v=>some (val v)
      |none=>none
   |_,_,_=>none
 |.makeFunc fn fs cs=>match fn with
  |.func f=>match oc s fs.toList with
   |none=>none
   |some l1=>match oc s cs.toList with
    |none=>none
    |some l2=>some (val (.db f l1 l2))
  |_=>none
 |.call c=>match c.callee with
  |.builtin b=>match oc s c.args.toList with
   |none=>none
   |some l=>EE tt b l c.argTypes.toList
  |_=>none
 |_=>none
end Go.Ab
end
