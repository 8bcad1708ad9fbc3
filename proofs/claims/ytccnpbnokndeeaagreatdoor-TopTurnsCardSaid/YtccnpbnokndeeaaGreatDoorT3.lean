/- Texts for the law: Ab33, Ab34, Ab35, Ab36, Ab37, Ab38, Ab39, Ab40, Ab41, Ab42, Ab43, Ab45, Ab46, Ab47, Ab49, Ab48, EXTRA. -/
import Derived.Test.YtccnpbnokndeeaaGreatDoorT2
import Derived.LoopN
import Derived.Defers
import Derived.Shelf.SlSortCmp.NoneTotal
noncomputable section
open Option renaming bind→β
open Sum renaming inr→ι,inl→κ
namespace Go.Ab
open Go.RowKit
variable{P:Program}
theorem gq.cells {w:World} {R:Nat→Prop} {φ:Ph} {M:Mem} (h:gq w R φ M) {n:Nat} (hn:cG φ M n):∃C t,w.heap[n]?=some (.cells C t (0,0)):=by
 obtain⟨b,k,x,h1,h2,rfl⟩:=hn;obtain⟨oh,h3,h4⟩:=h.rel b k h1;rw [h2] at h3;cases h3;obtain⟨_,_,_,_,C,hC,_⟩:=h4;exact⟨C,_,hC⟩
theorem gh.put {w w1 w2:World} {φ fQ:Ph} {R R1:Nat→Prop} {M M1:Mem} (h:gh w φ R M M1 w1 fQ R1) {l:Nat} (hl:w.heap.size≤l) (hR:¬R1 l) (ho:¬cG fQ M1 l)
  (he:∀n,n≠l→w2.heap[n]?=w1.heap[n]?) (hs:w2.heap.size=w1.heap.size) (h1:w2.os=w1.os) (h2:w2.tape=w1.tape) (h3:w2.output=w1.output) (h4:w1.drawn≤w2.drawn:=by first|exact Nat.le_refl _|exact Nat.le_succ _):gh w φ R M M1 w2 fQ R1:=by
 refine⟨⟨fun b k hb=>?_,h.mem.inj,h.mem.fA,h.mem.gl.mono (fun n hn=>he n (fun e=>hR (e▸hn))) (fun _ h=>h)⟩,h.fZ,h.fresh,h.eK,h.R0,h.Rn,fun n hn=>by rw [hs];exact h.Rb n hn,⟨h1.trans h.ext.os,h2.trans h.ext.tape,h3.trans h.ext.output,Nat.le_trans h.ext.dr h4,by rw [hs];exact h.ext.size,fun i hi hg=>?_⟩⟩
 ·obtain⟨oh,h4,h5⟩:=h.mem.rel b k hb;refine⟨oh,h4,?_⟩;have oE:∀n,R1 n→w2.heap[n]?=w1.heap[n]?:=fun n hn=>he n (fun e=>hR (e▸hn))
  cases oh with
  |none=>exact h5
  |some x=>
   obtain⟨r1,r2,r3,r4,C,r5,r6,r7⟩:=h5;refine⟨r1,r2,r3,r4,C,?_,r6,fun i y hy=>⟨(r7 i y hy).1,fun j c' hj=>?_⟩⟩
   ·rw [he _ (fun e=>ho (e▸⟨b,k,x,hb,h4,rfl⟩))];exact r5
   ·obtain⟨u,hu,hr⟩:=(r7 i y hy).2 j c' hj;exact⟨u,hu,hr.mono oE (fun _ h=>h) (fun _ _ h=>h)⟩
 ·rw [he i (by omega)];exact h.ext.block i hi hg
theorem gh.name {w w1:World} {φ fQ:Ph} {R R1:Nat→Prop} {M M1 N:Mem} {ρ:cC} (h:gh w φ R M M1 w1 fQ R1) (hi:iC ρ=true) (hk:(ρ.all fun p=>(lk p.1 N).isSome)=true) (hw:et ρ M1 N) (yS:∀b k k',lk b M=some (some k)→lk b N=some (some k')→lk b ρ=some (some b)∧∃k1,lk b M1=some (some k1)):gh w φ R M N w1 (fQ.via ρ) R1:=by
 obtain⟨m1,m2,m3⟩:=oC h.mem hi hk hw;refine⟨m1,m2,fun b k x hb hx=>?_,fun b k k' h1 h2=>?_,h.R0,h.Rn,h.Rb,h.ext⟩
 ·obtain⟨b0,k0,_,e1,e2⟩:=m3 b k x hb hx;exact h.fresh b0 k0 x e1 e2
 ·obtain⟨e1,k1,e2⟩:=yS b k k' h1 h2;simp only [Ph.via,e1];exact h.eK b k k1 h1 e2
theorem gh.trans {w w1 w2:World} {φ fQ jm:Ph} {R R1 R2:Nat→Prop} {M M1 M2:Mem} (h:gh w φ R M M1 w1 fQ R1) (g:gh w1 fQ R1 M1 M2 w2 jm R2) (yS:∀b k k',lk b M=some (some k)→lk b M2=some (some k')→∃k1,lk b M1=some (some k1)):gh w φ R M M2 w2 jm R2:=by
 have hb:∀n,cG fQ M1 n→w.heap.size≤n∨cG φ M n:=by
  rintro n ⟨b,k,x,h1,h2,rfl⟩;exact h.fresh b k x h1 h2
 refine⟨g.mem,g.fZ,fun b k x h1 h2=>?_,fun b k k' h1 h2=>?_,fun n hn=>g.R0 n (h.R0 n hn),fun n hn=>?_,g.Rb,h.ext.trans g.ext fun i hi hg=>?_⟩
 ·rcases g.fresh b k x h1 h2 with e|e
  ·exact .inl (Nat.le_trans h.ext.size e)
  ·exact hb _ e
 ·obtain⟨k1,e1⟩:=yS b k k' h1 h2;rw [g.eK b k1 k' e1 h2,h.eK b k k1 h1 e1]
 ·rcases g.Rn n hn with e|e|e
  ·exact h.Rn n e
  ·exact .inr (.inl (Nat.le_trans h.ext.size e))
  ·exact .inr (hb n e)
 ·rcases hb i hg with e|e
  ·omega
  ·exact e
theorem gh.refl {w:World} {φ:Ph} {R:Nat→Prop} {M:Mem} (h1:gq w R φ M) (h2:∀b x,φ b=some x→∃y,lk b M=some y) (h3:∀n,R n→n<w.heap.size):gh w φ R M M w φ R:=
 ⟨h1,h2,fun b k x hb hx=>.inr ⟨b,k,x,hb,hx,rfl⟩,fun _ _ _ _ _=>rfl,fun _ h=>h,fun _ h=>.inl h,h3,Ext.refl _ _⟩
end Go.Ab
namespace Go.Ab
open Go.RowKit
variable{P:Program}
theorem gh.grow {w w1 w2:World} {φ fQ:Ph} {R R1:Nat→Prop} {M M1:Mem} (h:gh w φ R M M1 w1 fQ R1) (hs:w1.heap.size≤w2.heap.size) (he:∀n,n<w1.heap.size→w2.heap[n]?=w1.heap[n]?) (h1:w2.os=w1.os) (h2:w2.tape=w1.tape) (h3:w2.output=w1.output) (h4:w1.drawn≤w2.drawn:=by first|exact Nat.le_refl _|exact Nat.le_succ _):gh w φ R M M1 w2 fQ R1:=by
 refine⟨⟨fun b k hb=>?_,h.mem.inj,h.mem.fA,h.mem.gl.mono (fun n hn=>he n (h.Rb n hn)) (fun _ h=>h)⟩,h.fZ,h.fresh,h.eK,h.R0,h.Rn,fun n hn=>Nat.lt_of_lt_of_le (h.Rb n hn) hs,⟨h1.trans h.ext.os,h2.trans h.ext.tape,h3.trans h.ext.output,Nat.le_trans h.ext.dr h4,Nat.le_trans h.ext.size hs,fun i hi hg=>?_⟩⟩
 ·obtain⟨oh,h4,h5⟩:=h.mem.rel b k hb;refine⟨oh,h4,h5.mono (fun n hn=>he n (h.Rb n hn)) (fun x hx=>he _ ?_) (fun _ _ h=>h)⟩;obtain⟨C,t,hC⟩:=h.mem.cells ⟨b,k,x,hb,by rw [h4,hx],rfl⟩;exact(Array.getElem?_eq_some_iff.1 hC).1
 ·rw [he i (Nat.lt_of_lt_of_le hi h.ext.size)];exact h.ext.block i hi hg
theorem gh.drew {w w1:World} {φ fQ:Ph} {R R1:Nat→Prop} {M M1:Mem} (h:gh w φ R M M1 w1 fQ R1):gh w φ R M M1 w1.drew fQ R1:=h.grow (Nat.le_refl _) (fun _ _=>rfl) rfl rfl rfl
end Go.Ab
namespace Go.Ab
open Go.RowKit
variable{P:Program}
def F8 (P:Program) (Z:Ctx→Act→World→Prop) (lim:Nat) (code:Code) (Q:Exit→St→Prop) (s:St):Prop:=
 ∀(c:Ctx) (_:c.w0.heap.size=lim) (_:c.ds=[]) (a:Act) (w:World),dh c s a w→code.wp P (fun e a' w'=>(∃s',dh c s' a' w'∧Q e s')∨(e=.ret∧Z c a' w')) a w
variable{Z:Ctx→Act→World→Prop} {lim:Nat} {Q:Exit→St→Prop} {s:St}
theorem jX {x y:Code} (h:dO P lim x (iA (F8 P Z lim y Q) Q) s):F8 P Z lim (.seq x y) Q s:=by
 intro c eu rn a w hs;refine wp_seq (wp_mono (h c eu a w hs) ?_);rintro e a' w' ⟨s',cu,hq⟩;cases e with
 |normal=>exact hq c eu rn a' w' cu
 |_=>exact .inl ⟨s',cu,hq⟩
def ZM (P:Program) (fn:Func) (r:AV) (c:Ctx) (a:Act) (w:World):Prop:=
 ∃D,a.defers=[{target:=.collected D,args:=#[]}]∧w.heap[D]?=some (.deferred (some []))∧
  ∃v φ' R',(results fn a.tmps).run P (w.putObj D (.deferred none))=.ok v (w.putObj D (.deferred none))∧Rel (w.putObj D (.deferred none)) R' φ' r v∧(∀n,c.R0 n→R' n)∧(∀n,R' n→c.R0 n∨c.w0.heap.size≤n∨c.G n)∧(∀n,R' n→n<w.heap.size)∧Ext c.w0 (w.putObj D (.deferred none)) c.G
theorem B3 {f n:Nat} {fn:Func} {body:Code} {args:List AV} {r:AV} {t:List (Nat×AV)} (hf:P.funcs[f]?=some fn) (hb:fn.body=some body) (hn:fn.ntmps=n) (hlen:Nat.ble args.length n=true) (ht:p8 0 args=some t)
  (h:∀lim,F8 P (ZM P fn r) lim body (oc (mz P fn [] r [])) ⟨n,t,[]⟩):Holds P f args [] r []:=by
 intro w vs φ R oD fq fP ma eJ;have hle:args.length≤n:=Nat.le_of_ble_eq_true hlen;refine callsIn_wide.1 (callsIn_of_wp_marks (n:=0) hf hb trivial (wpIn_wide.2 ?_) rfl)
 have jl:cz ⟨w,cG φ [],R,φ,[]⟩ φ R ⟨n,t,[]⟩ {tmps:=vs++Array.replicate (fn.ntmps -vs.size) undef,defers:=[]} w:=by
  refine⟨by simp [hn];omega,fun q av hq=>?_,fP,ma,fun b k x hb hx=>.inr ⟨b,k,x,hb,hx,rfl⟩,fun _ h=>h,fun _ h=>.inl h,eJ,Ext.refl _ _,rfl,fun b _=>.inr rfl⟩;rw [←yr ht] at hq;obtain⟨_,h2⟩:=yi args 0 q av hq;simp only [Nat.sub_zero] at h2;have bB:q<vs.size:=by rw [←oD];exact(List.getElem?_eq_some_iff.1 h2).1
  have:=fq q av vs[q] h2 (by simp [bB]);simpa [Array.getD_eq_getD_getElem?,Array.getElem?_append_left bB,bB] using this
 refine wp_mono (h w.heap.size ⟨w,cG φ [],R,φ,[]⟩ rfl rfl _ w ⟨φ,R,jl⟩) ?_;have oM:∀{b:Nat} {k:Option eI},lk b ([]:Mem)=some k→False:=fun h=>by simp [lk] at h
 rintro e a' w' (⟨s',⟨fQ,R1,dc⟩,hq⟩|⟨rfl,D,hd,hD,v,φ',R',z1,z2,z3,z4,z5,z6⟩)
 ·have hx:e=.normal∨e=.ret:=by
   cases e<;>first|exact .inl rfl|exact .inr rfl|exact hq.elim
  have mB:mz P fn [] r [] s':=by rcases hx with rfl|rfl<;>exact hq
  obtain⟨gr,ρ,f1,f2,f3,f4,f5⟩:=mB;obtain⟨v,g1,g2⟩:=yh dc f1;obtain⟨i1,i2⟩:=vy f2;obtain⟨m1,m2,m3⟩:=oC dc.m i1 i2 f5
  have hL:∀{RR:Ending→World→Prop},RR (.returned v) w'→LeavesInM Fence.wide 0 P fn a'.tmps RR a'.defers .returning w':=by
   intro RR hr;rw [dc.d];exact⟨v,g1,hr⟩
  rcases hx with rfl|rfl;all_goals exact hL ⟨v,fQ.via ρ,R1,rfl,mE dc.m (m:=[]) (fun _ h=>h) (fun b k h hb=>(oM hb).elim) g2 f4,m1,fun b k x hb _=>(oM hb).elim,fun b k k' hb _=>(oM hb).elim,dc.R0,dc.Rn,dc.Rb,dc.ext⟩
 ·have hL:∀{RR:Ending→World→Prop},LeavesInM Fence.wide 0 P fn a'.tmps RR [{target:=.collected D,args:=#[]}] .returning w'→LeavesInM Fence.wide 0 P fn a'.tmps RR a'.defers .returning w':=fun h=>by rw [hd];exact h
  have B4:tk (w'.putObj D (.deferred none)) R':=fun g cs hg=>by
   obtain⟨q1,q2⟩:=fP.gl g cs hg;refine⟨z3 g q1,fun k c hk=>?_⟩;obtain⟨v,e1,e2,e3⟩:=q2 k c hk;exact⟨v,e1,e2,(World.cell?_of_block (z6.block g (eJ g q1) (fun⟨b,_,_,hb,_⟩=>oM hb))).trans e3⟩
  refine hL ⟨by simp,.inl ⟨D,_,rfl,run_takeDeferred hD,v,z1,v,φ',R',rfl,z2,⟨fun b k hb=>(oM hb).elim,fun b b' k k' x x' hb=>(oM hb).elim,fun b k x hb=>(oM hb).elim,B4⟩,fun b k x hb _=>(oM hb).elim,fun b k k' hb _=>(oM hb).elim,z3,z4,?_,z6⟩⟩;intro n hn;have:=z5 n hn;simpa [World.putObj] using this
end Go.Ab
namespace Go.Ab
open Go.RowKit
variable{P:Program} {Z:Ctx→Act→World→Prop} {lim:Nat} {Q:Exit→St→Prop}
def UT (P:Program) (Z:Ctx→Act→World→Prop) (lim:Nat) (y z:Code) (Q:Exit→St→Prop) (s:St):Prop:=
 ∀(c:Ctx) (_:c.w0.heap.size=lim) (_:c.ds=[]) (a:Act) (w:World),dh c s a w→y.wp P (Exit.then (z.wp P fun e a' w'=>(∃s',dh c s' a' w'∧Q e s')∨(e=.ret∧Z c a' w')) fun e a' w'=>(∃s',dh c s' a' w'∧Q e s')∨(e=.ret∧Z c a' w')) a w
theorem B5 {x y z:Code} {s:St} (h:dO P lim x (iA (UT P Z lim y z Q) Q) s):F8 P Z lim (.seq (.seq x y) z) Q s:=by
 intro c eu rn a w hs;refine wp_seq (wp_seq (wp_mono (h c eu a w hs) ?_));rintro e a' w' ⟨s',cu,hq⟩;cases e with
 |normal=>exact hq c eu rn a' w' cu
 |_=>exact .inl ⟨s',cu,hq⟩
end Go.Ab
namespace Go.Ab
open Go.RowKit
variable{P:Program}
theorem B6 {f:Nat} (h:bf P f):∀args w,(callFunc f args).run P w=.ok (.enter f args) w:=by
 obtain⟨fn,h1,h2,h3⟩:=h;intro args w;have e1:¬fn.name= "runtime.NumGoroutine":=by simpa using h2
 have e2:¬fn.body=none:=by
  intro h;rw [h] at h3;cases h3
 simp [callFunc,h1,e1,e2]
end Go.Ab
namespace Go.Ab
open Go.RowKit
variable{P:Program}
theorem sy {ops:Array Oper} {K:Act→World→Prop} {Q:Exit→Act→World→Prop} {n:Nat} {l2:List Nat} (h2:∀a w,K a w→wpOpsIn Fence.wide n P ops Q l2 a w):∀(l:List Nat) (a:Act) (w:World),wpOps P ops (fun e a w=>e=.normal∧K a w) l a w→wpOpsIn Fence.wide n P ops Q (l++l2) a w
 |[],a,w,h=>h2 a w h.2
 |i::l,a,w,h=>by
  have hQ:¬LetsOut (fun(e:Exit) (a:Act) (w:World)=>e=.normal∧K a w):=by
   rintro⟨_,_,h,_⟩;cases h
  simp only [wpOps] at h;simp only [List.cons_append,wpOpsIn];cases ho:ops[i]?with
  |none=>
   simp only [ho] at h⊢;exact sy h2 l a w h
  |some o=>
   simp only [ho] at h⊢;by_cases hw:Region.wanted o (yielded ops a.tmps)=true
   ·simp only [hw,if_true] at h⊢;rcases h with h|⟨_,h⟩
    ·refine⟨fun _ _=>trivial,?_⟩;rw [show Fence.wide.round=none from rfl,Oper.semAt_none]
     unfold Oper.wp at h;generalize(execOp a.eval o).run P w=r at h;cases r with
     |ok x w'=>
      cases x with
      |value v=>exact sy h2 l _ _ h
      |skip=>exact sy h2 l _ _ h
      |defer d=>exact sy h2 l _ _ h
      |enter f args=>
       refine⟨fun e=>by simp [Fence.wide] at e,?_⟩;refine callsIn_wide.2 (Calls.mono h ?_);intro e B2 hq;cases e with
       |returned v=>exact sy h2 l _ _ hq
       |panicked c=>exact absurd hq.1 (by simp)
       |outgrown=>exact absurd hq hQ
      |row r args=>
       refine⟨fun e=>by simp [Fence.wide] at e,?_⟩;intro c cs _;obtain⟨v,B2,hr,hs⟩:=h c cs;exact⟨v,B2,sy h2 l _ _ hr,stepsIn_wide.2 hs⟩
      |round _ _ _ _ _=>exact h.elim
      |_=>exact h.elim
     |halt x w'=>
      cases x with
      |panic v=>exact absurd h.1 (by simp)
      |_=>exact h.elim
    ·exact absurd h hQ
   ·simp only [hw,if_false,Bool.false_eq_true] at h⊢;exact⟨fun _ _=>trivial,sy h2 l _ _ h⟩
def rp (ops:Array Oper) (k:Nat):List Nat:=(List.range ops.size).drop k
theorem J8 {ops:Array Oper} {k j:Nat} (h:k+j≤ops.size):rp ops k=(List.range j).map (k+·)++rp ops (k+j):=by
 unfold rp;apply List.ext_getElem?;intro i;by_cases hi:i<j
 ·rw [List.getElem?_append_left (by simpa using hi),List.getElem?_drop,List.getElem?_map,List.getElem?_range (by omega),List.getElem?_range hi];rfl
 ·rw [List.getElem?_append_right (by simpa using hi),List.getElem?_drop,List.getElem?_drop];simp only [List.length_map,List.length_range];congr 1;omega
theorem UU {ops:Array Oper} {k:Nat} {l:List Oper} {s:St} {F:St→Prop} {acc:List (Option dN)} (hl:(ops.toList.drop k).take l.length=l) (h:Go P ops false F l s acc) {c:Ctx} {a:Act} {w:World} (hs:dh c s a w):
  wpOps P ops (fun e a' w'=>e=.normal∧∃s',dh c s' a' w'∧F s') ((List.range l.length).map (k+·)) a w:=by
 obtain⟨r,h1,_,h3⟩:=h;obtain⟨i1,i2⟩:=vn l r k h1.symm
 have vt:∀x∈items k l r,ops[x.i]?=some x.o:=fun x hx=>by
  obtain⟨q1,q2⟩:=i2 x hx;rw [←hl] at q2
  have bB:x.i -k<l.length:=by
   rcases Nat.lt_or_ge (x.i -k) l.length with z|z
   ·exact z
   ·rw [List.getElem?_eq_none (by rw [List.length_take];omega)] at q2;cases q2
  rw [List.getElem?_take_of_lt bB,List.getElem?_drop,show k+(x.i -k)=x.i by omega] at q2
  simpa using q2
 have run:=Fa (Q:=fun e a' w'=>e=.normal∧∃s',dh c s' a' w'∧F s') (fun s a w hk hs=>⟨rfl,s,hs,hk⟩) _ _ a w vt (h3 k) hs;rw [i1] at run;exact run
def Ctx.pE (c:Ctx) (l:Nat) (d:Loop):Ctx:={c with w0:=c.w0.putObj l (.loop d)}
structure B7 (c:Ctx) (l:Nat) (rec:Loop):Prop where
 lp:c.w0.heap[l]?=some (.loop rec)
 R:¬c.R0 l
 G:¬c.G l
 Rn:∀n,c.R0 n→n<c.w0.heap.size∧¬c.G n
def oN (P:Program) (n:Nat) (c:Ctx) (l:Nat) (code:Code) (Q:Exit→St→Prop) (Z:Loop→Exit→St→Prop) (s:St):Prop:=
 ∀(a:Act) (w:World),dh c s a w→code.wpIn Fence.wide n P (fun e a' w'=>(∃s',dh c s' a' w'∧Q e s')∨(∃d s',dh (c.pE l d) s' a' w'∧Z d e s')) a w
section
variable{n l:Nat} {c:Ctx} {rec:Loop} {Q:Exit→St→Prop} {Z:Loop→Exit→St→Prop} {s:St}
theorem eC {code:Code} (h:dO P c.w0.heap.size code Q s):oN P n c l code Q Z s:=fun a w hs=>wpIn_wide.2 (wp_mono (h c rfl a w hs) fun _ _ _ h=>.inl h)
theorem UW {d:Loop}:(c.pE l d).w0.heap.size=c.w0.heap.size:=by simp [Ctx.pE,World.putObj]
theorem fj {x y:Code} (h:oN P n c l x (iA (oN P n c l y Q Z) Q) (fun d=>iA (dO P c.w0.heap.size y (Z d)) (Z d)) s):oN P n c l (.seq x y) Q Z s:=by
 intro a w hs;refine wpIn_seq (wpIn_mono (h a w hs) ?_);rintro e a' w' (⟨s',cu,hq⟩|⟨d,s',cu,hq⟩)
 ·cases e with
  |normal=>exact hq a' w' cu
  |_=>exact .inl ⟨s',cu,hq⟩
 ·cases e with
  |normal=>exact wpIn_wide.2 (wp_mono (hq (c.pE l d) UW a' w' cu) fun _ _ _ h=>.inr ⟨d,h⟩)
  |_=>exact .inr ⟨d,s',cu,hq⟩
theorem rq {id:Nat} {x:Code} (h:oN P n c l x (nF id Q) (fun d=>nF id (Z d)) s):oN P n c l (.block id x) Q Z s:=by
 intro a w hs;refine wpIn_block (wpIn_mono (h a w hs) ?_);rintro e a' w' (⟨s',cu,hq⟩|⟨d,s',cu,hq⟩)
 ·cases e with
  |exit pZ=>
   simp only [nF] at hq;simp only [Exit.inBlock];split at hq
   ·rw [if_pos (by assumption)];exact .inl ⟨s',cu,hq⟩
   ·rw [if_neg (by assumption)];exact .inl ⟨s',cu,hq⟩
  |_=>exact .inl ⟨s',cu,hq⟩
 ·cases e with
  |exit pZ=>
   simp only [nF] at hq;simp only [Exit.inBlock];split at hq
   ·rw [if_pos (by assumption)];exact .inr ⟨d,s',cu,hq⟩
   ·rw [if_neg (by assumption)];exact .inr ⟨d,s',cu,hq⟩
  |_=>exact .inr ⟨d,s',cu,hq⟩
theorem aik {X:Type} {body:Code} (st:X→St) (μ:X→Nat) (x0:X) (h0:∃ρ,tA ρ s (st x0)) (step:∀x,oN P n c l body (iA (fun s'=>∃x' ρ,tA ρ s' (st x')∧μ x'<μ x) Q) (fun d=>iA (fun _=>False) (Z d)) (st x)):oN P n c l (.loop body) Q Z s:=by
 intro a w hs
 have key:∀(k:Nat) (x:X) (a:Act) (w:World),μ x<k→dh c (st x) a w→Code.roundsIn Fence.wide n P body (fun e a' w'=>(∃s',dh c s' a' w'∧Q e s')∨(∃d s',dh (c.pE l d) s' a' w'∧Z d e s')) k a w:=by
  intro k
  induction k with
  |zero=>intro x a w hk;omega
  |succ k ih=>
   intro x a w hk hs;refine wpIn_mono (step x a w hs) ?_;rintro e a' w' (⟨s',cu,hq⟩|⟨d,s',cu,hq⟩)
   ·cases e with
    |normal=>
     obtain⟨x',ρ,hw,bB⟩:=hq;exact ih x' a' w' (by omega) (cu.weaken hw)
    |_=>exact .inl ⟨s',cu,hq⟩
   ·cases e with
    |normal=>exact hq.elim
    |_=>exact .inr ⟨d,s',cu,hq⟩
 obtain⟨ρ,h0⟩:=h0;exact wpIn_loop_rounds _ (key (μ x0+1) x0 a w (by omega) (hs.weaken h0))
structure ru (c:Ctx) (l:Nat) (rec:Loop) (args:List AV) (M:Mem) (w:World) (vs:Array Value) (φ:Ph) (R:Nat→Prop):Prop where
 len:args.length=vs.size
 rel:∀(i:Nat) (c:AV) (v:Value),args[i]?=some c→vs[i]?=some v→Rel w R φ c v
 mem:gq w R φ M
 fZ:∀b x,φ b=some x→∃y,lk b M=some y
 Rb:∀n,R n→n<w.heap.size
 lp:w.heap[l]?=some (.loop rec)
 nR:¬R l
 home:∀b k,b<1100→lk b M=some (some k)→φ b=c.xU b
 R0:∀n,c.R0 n→R n
 same:∀n,c.R0 n→w.heap[n]?=c.w0.heap[n]?
def UX (P:Program) (n:Nat) (c:Ctx) (l:Nat) (rec:Loop) (args:List AV) (M M':Mem):Prop:=
 ∀(w:World) (vs:Array Value) (φ:Ph) (R:Nat→Prop),ru c l rec args M w vs φ R→YieldAt Fence.wide n P l vs w fun e w'=>e=.returned (.bool true)∧∃φ' R',Fh w φ R M (.sc (.bool true)) M' w' (.bool true) φ' R'
def UY (P:Program) (n:Nat) (c:Ctx) (l:Nat) (rec d:Loop) (args:List AV) (M M':Mem):Prop:=
 ∀(w:World) (vs:Array Value) (φ:Ph) (R:Nat→Prop),ru c l rec args M w vs φ R→YieldAt Fence.wide n P l vs w fun e w'=>e=.returned (.bool false)∧∃φ' R',Fh (w.putObj l (.loop d)) φ R M (.sc (.bool false)) M' w' (.bool false) φ' R'
def tS (P:Program) (n:Nat) (c:Ctx) (l:Nat) (ops:Array Oper) (Q:St→Prop) (Z:Loop→St→Prop) (k:Nat) (s:St):Prop:=
 ∀(a:Act) (w:World),dh c s a w→wpOpsIn Fence.wide n P ops (fun e a' w'=>(∃s',dh c s' a' w'∧e=.normal∧Q s')∨(∃d s',dh (c.pE l d) s' a' w'∧e=.normal∧Z d s')) (rp ops k) a w
theorem B8 {id:Nat} {ops:Array Oper} (h:tS P n c l ops (Q .normal) (fun d=>Z d .normal) 0 s):oN P n c l (.region id ops false) Q Z s:=by
 intro a w hs;refine wpIn_mono (wpIn_region (h a w hs)) ?_;rintro e a' w' (⟨s',cu,rfl,hq⟩|⟨d,s',cu,rfl,hq⟩)
 ·exact .inl ⟨s',cu,hq⟩
 ·exact .inr ⟨d,s',cu,hq⟩
variable{ops:Array Oper} {F:St→Prop} {W:Loop→St→Prop} {k:Nat}
theorem yT (hk:ops.size=k) (h:F s):tS P n c l ops F W k s:=by
 intro a w hs;subst hk;unfold rp;rw [List.drop_eq_nil_of_le (by simp)];exact .inl ⟨s,hs,rfl,h⟩
theorem qb (j:Nat) (hj:Nat.ble (k+j) ops.size=true) {acc:List (Option dN)} (h:Go P ops false (tS P n c l ops F W (k+j)) ((ops.toList.drop k).take j) s acc):tS P n c l ops F W k s:=by
 intro a w hs;have hle:k+j≤ops.size:=Nat.le_of_ble_eq_true hj;have hlen:((ops.toList.drop k).take j).length=j:=by rw [List.length_take,List.length_drop];simp;omega
 rw [J8 hle];have:=UU (k:=k) (by rw [hlen]) h hs;rw [hlen] at this;refine sy ?_ _ a w this;rintro a w ⟨s',cu,hq⟩;exact hq a w cu
theorem cz.pE {φ:Ph} {R:Nat→Prop} {s:St} {a:Act} {w:World} (h:cz c φ R s a w) (hI:B7 c l rec) (d:Loop):¬R l∧w.heap[l]?=some (.loop rec)∧cz (c.pE l d) φ R s a (w.putObj l (.loop d)):=by
 obtain⟨h1,h2,h3,h4⟩:=hI;have bB:l<c.w0.heap.size:=(Array.getElem?_eq_some_iff.1 h1).1
 have hR:¬R l:=fun q=>by
  rcases h.Rn l q with q|q|q
  ·exact h2 q
  ·omega
  ·exact h3 q
 have hw:w.heap[l]?=some (.loop rec):=(h.ext.block l bB h3).trans h1;have ail:l<w.heap.size:=(Array.getElem?_eq_some_iff.1 hw).1;have he:∀i,i≠l→(w.putObj l (.loop d)).heap[i]?=w.heap[i]?:=fun i hi=>World.putObj_heap_other hi
 have dj:(w.putObj l (.loop d)).heap.size=w.heap.size:=by simp [World.putObj]
 have yU:(c.pE l d).w0.heap.size=c.w0.heap.size:=by simp [Ctx.pE,World.putObj]
 have oE:∀i,R i→(w.putObj l (.loop d)).heap[i]?=w.heap[i]?:=fun i hi=>he i fun e=>hR (e▸hi)
 refine⟨hR,hw,h.n,fun t av ht=>(h.t t av ht).mono oE (fun _ h=>h) (fun _ _ h=>h),⟨fun b k hb=>?_,h.m.inj,h.m.fA,h.m.gl.mono oE (fun _ h=>h)⟩,h.fZ,fun b k x hb hx=>?_,h.R0,fun i hi=>?_,fun i hi=>by rw [dj];exact h.Rb i hi,⟨h.ext.os,h.ext.tape,h.ext.output,h.ext.dr,by rw [dj,yU];exact h.ext.size,fun i hi hg=>?_⟩,h.d,h.eK⟩
 ·obtain⟨oh,q1,q2⟩:=h.m.rel b k hb;refine⟨oh,q1,q2.mono oE (fun x hx=>he _ fun e=>?_) (fun _ _ h=>h)⟩;subst hx;rcases h.fresh b k x hb q1 with z|z
  ·rw [e] at z;omega
  ·rw [e] at z;exact h3 z
 ·rw [yU];exact h.fresh b k x hb hx
 ·rw [yU];exact h.Rn i hi
 ·rw [yU] at hi;by_cases e:i=l
  ·subst e;rw [World.putObj_heap_same ail];exact(World.putObj_heap_same bB).symm
  ·rw [he i e];refine(h.ext.block i hi hg).trans ?_;exact(World.putObj_heap_other e).symm
theorem UZ {o:Oper} {fo:Operand} {xs:Array Operand} {ga:Array TypeId} {args:List AV} {M M':Mem} {ρ σ:cC} {Wm:Mem} {L:Mem} {b:Bool} (ho:o.op=pw fo xs ga) (F9:dV ops s o=some true) (hk:ops[k]?=some o) (mI:s.ev fo=.sc (.func (.yield l) #[] #[]))
  (hL:mF ρ s.m L) (fq:gb L ρ (xs.toList.map s.ev) args) (hi:iC ρ=true) (tF:(ρ.all fun p=>(lk p.1 M).isSome)=true) (hM:et ρ s.m M) (nG:iC σ=true) (p7:(σ.all fun p=>(lk p.1 Wm).isSome)=true) (hW:et σ M' Wm) (oB:vB ρ M σ Wm=true) (mG:L≠[]→rb Wm) (ji:mJ s (kG ρ Wm)=true)
  (hI:B7 c l rec) (F_:(M.all fun p=>Nat.ble 1000 p.1&&(Nat.ble 1100 p.1||match lk p.1 ρ with|some (some q)=>Nat.beq q p.1|_=>false))=true) {d:Loop} (hY:if b=true then UX P (n -1) c l rec args M M' else UY P (n -1) c l rec d args M M')
  (next:if b=true then tS P n c l ops F W (k+1) (s.app o.dst ⟨.sc (.bool true),Wm++lF (dQ ρ),dQ ρ++L.map (·.1),kG ρ Wm⟩) else∃acc,Go P ops false (W d) (ops.toList.drop (k+1)) (s.app o.dst ⟨.sc (.bool false),Wm++lF (dQ ρ),dQ ρ++L.map (·.1),kG ρ Wm⟩) acc):tS P n c l ops F W k s:=by
 intro a w hs;obtain⟨φ,R,cR⟩:=hs;obtain⟨hR,J9,dc⟩:=cR.pE hI d;obtain⟨h1,h2,h3,h4⟩:=hI;have apT:k<ops.size:=(Array.getElem?_eq_some_iff.1 hk).1
 have hfk:rp ops k=k::rp ops (k+1):=by
  have:=J8 (ops:=ops) (k:=k) (j:=1) (by omega);simpa using this
 rw [hfk];simp only [wpOpsIn,hk];have ain:Region.wanted o (yielded ops a.tmps)=true:=E8 cR F9;rw [if_pos ain];refine⟨fun _ _=>trivial,?_⟩;rw [show Fence.wide.round=none from rfl,Oper.semAt_none]
 have hfv:a.eval fo=.func (.yield l) #[] #[]:=by
  have:=cR.ev fo;rw [mI] at this;exact this.gI
 have vD:∀(i:Nat) (x:AV) (u:Value),(xs.toList.map s.ev)[i]?=some x→(xs.map a.eval)[i]?=some u→Rel w R φ x u:=by
  intro i x u hx hu;rw [List.getElem?_map,Array.getElem?_toList] at hx;rw [Array.getElem?_map] at hu;cases hy:xs[i]?with
  |none=>simp [hy] at hx
  |some y=>
   simp [hy] at hx hu;subst hx;subst hu;exact cR.ev y
 have Bt:¬(R l∨cG φ L l):=by
  rintro(q|⟨b,k,x,e1,e2,e3⟩)
  ·exact hR q
  ·obtain⟨k',z1,z2,_⟩:=yj hL b _ (fR e1);rcases cR.fresh b k' x z2 e2 with z|z
   ·have bB:l<c.w0.heap.size:=(Array.getElem?_eq_some_iff.1 h1).1;omega
   ·exact h3 (e3▸z)
 have FO:∀n,c.R0 n→w.heap[n]?=c.w0.heap[n]?:=fun n hn=>cR.ext.block n (h4 n hn).1 (h4 n hn).2
 have U0:gq w (fun n=>R n∨cG φ L n) (φ.via ρ) M→∀b k,b<1100→lk b M=some (some k)→φ.via ρ b=c.xU b:=by
  intro hm b k x_ hb;have hq:=List.all_eq_true.1 F_ _ (fR hb);rw [Bool.and_eq_true,Bool.or_eq_true] at hq;have hq:Nat.ble 1000 b=true∧(match lk b ρ with|some (some q)=>Nat.beq q b|_=>false)=true:=⟨hq.1,hq.2.resolve_left (by simp;omega)⟩
  obtain⟨oh,J_,_⟩:=hm.rel b k hb;have ou:1000≤b:=Nat.le_of_ble_eq_true hq.1;cases hz:lk b ρ with
  |none=>simp [hz] at hq
  |some z=>
   cases z with
   |none=>simp [hz] at hq
   |some q=>
    simp only [hz] at hq;have Br:=Nat.eq_of_beq_eq_true hq.2;subst Br;simp only [Ph.via,hz] at J_⊢;rcases cR.eK q ou with e|e
    ·rw [e] at J_;cases J_
    ·exact e
 have vC:(xs.toList.map s.ev).length=(xs.map a.eval).size:=by simp
 have fG:∀{fn:FuncId} {tmps:Array Value} {assign body:Code},(Instr.yield l (xs.map a.eval)).run P w=.ok (.round l fn tmps assign body) w→(execOp a.eval o).run P w=.ok (.round l fn tmps assign body) w:=by
  intro fn tmps assign body hy;simp [execOp,ho,pw,resolve,hfv,Deferred.ofValue,invoke,hy]
 cases b with
 |true=>
  rw [if_pos rfl] at hY next
  obtain⟨⟨q1,q2,q3,q4,q5⟩,q6⟩:=Fi (s:=s) (s':=s) (M':=M') (r:=.sc (.bool true)) (v:=.sc (.bool true)) hL fq hi tF hM nG p7 hW (by simp [bE,tz]) oB (fun h=>⟨rfl,mG h⟩) (fun _ _=>rfl) (BA ji) cR vC vD;have yb:ru c l rec args M w (xs.map a.eval) (φ.via ρ) (fun n=>R n∨cG φ L n):=⟨q1,q2,q3,q4,q5,J9,Bt,U0 q3,fun n h=>.inl (cR.R0 n h),FO⟩;obtain⟨fn,tmps,assign,body,J',tG⟩:=hY w (xs.map a.eval) _ _ yb;rw [fG J'];refine⟨fun e=>by simp [Fence.wide] at e,tG.mono ?_⟩;rintro e w' ⟨rfl,φ',R',hp⟩;exact next _ _ (q6 o.dst w' _ φ' R' hp)
 |false=>
  rw [if_neg (by simp)] at hY next
  obtain⟨⟨q1,q2,q3,q4,q5⟩,_⟩:=Fi (s:=s) (s':=s) (M':=M') (r:=.sc (.bool false)) (v:=.sc (.bool false)) hL fq hi tF hM nG p7 hW (by simp [bE,tz]) oB (fun h=>⟨rfl,mG h⟩) (fun _ _=>rfl) (BA ji) cR vC vD;have aip:∀(i:Nat) (x:AV) (u:Value),(xs.toList.map s.ev)[i]?=some x→(xs.map a.eval)[i]?=some u→Rel (w.putObj l (.loop d)) R φ x u:=fun i x u hx hu=>(vD i x u hx hu).mono (fun k hk=>World.putObj_heap_other fun e=>hR (e▸hk)) (fun _ h=>h) (fun _ _ h=>h)
  obtain⟨_,q6⟩:=Fi (s:=s) (s':=s) (M':=M') (r:=.sc (.bool false)) (v:=.sc (.bool false)) hL fq hi tF hM nG p7 hW (by simp [bE,tz]) oB (fun h=>⟨rfl,mG h⟩) (fun _ _=>rfl) (BA ji) dc vC aip;have yb:ru c l rec args M w (xs.map a.eval) (φ.via ρ) (fun n=>R n∨cG φ L n):=⟨q1,q2,q3,q4,q5,J9,Bt,U0 q3,fun n h=>.inl (cR.R0 n h),FO⟩;obtain⟨fn,tmps,assign,body,J',tG⟩:=hY w (xs.map a.eval) _ _ yb;rw [fG J'];refine⟨fun e=>by simp [Fence.wide] at e,tG.mono ?_⟩;rintro e w' ⟨rfl,φ',R',hp⟩;have kI:=q6 o.dst w' _ φ' R' hp;obtain⟨acc,hgo⟩:=next
  have hl:(ops.toList.drop (k+1)).take (ops.toList.drop (k+1)).length=ops.toList.drop (k+1):=List.take_length;have Bq:=UU hl hgo kI
  have air:rp ops (k+1)=(List.range (ops.toList.drop (k+1)).length).map (k+1+·)++[]:=by
   have:=J8 (ops:=ops) (k:=k+1) (j:=ops.size -(k+1)) (by omega);rw [this];congr 1
   ·simp
   ·unfold rp;exact List.drop_eq_nil_of_le (by simp;omega)
  show wpOpsIn Fence.wide n P ops _ (rp ops (k+1)) _ w'
  rw [air];refine sy ?_ _ _ w' Bq;rintro a2 w2 ⟨s2,gi,hq⟩;exact .inr ⟨d,s2,gi,rfl,hq⟩
end
end Go.Ab
namespace Go.Ab
open Go.RowKit
variable{P:Program}
theorem Ka {w:World} {φ:Ph} {R:Nat→Prop} {M M':Mem} {s':St} {a':Act} {w':World} (hM:tD M=true) (hs:dh ⟨w,cG φ M,R,φ,[]⟩ s' a' w') (h:pD M M' s'):∃φ' R',gh w φ R M M' w' φ' R':=by
 obtain⟨fQ,R1,dc⟩:=hs;obtain⟨ρ,f2,f3,f5⟩:=h;obtain⟨i1,i2⟩:=vy f2;obtain⟨m1,m2,m3⟩:=oC dc.m i1 i2 f5;refine⟨fQ.via ρ,R1,m1,m2,fun b k x hb hx=>?_,fun b k k' h1 h2=>?_,dc.R0,dc.Rn,dc.Rb,dc.ext⟩
 ·obtain⟨b0,k0,_,e1,e2⟩:=m3 b k x hb hx;exact dc.fresh b0 k0 x e1 e2
 ·have hk:=List.all_eq_true.1 f3 _ (fR h1);simp only [h2] at hk;cases hq:lk b ρ with
  |none=>simp [hq] at hk
  |some o=>
   cases o with
   |none=>simp [hq] at hk
   |some q=>
    simp only [hq] at hk;have Br:=Nat.eq_of_beq_eq_true hk;rw [Br] at hq;have ou:1000≤b:=Nat.le_of_ble_eq_true (by simpa using List.all_eq_true.1 hM _ (fR h1));have Bs:=yd f5 b k' (fR h2);simp only [hq] at Bs;obtain⟨k0,pq,_⟩:=Bs;obtain⟨oh,ho,_⟩:=dc.m.rel b k0 pq
    have:fQ b=φ b:=by
     rcases dc.eK b ou with h|h
     ·rw [h] at ho;cases ho
     ·exact h
    simp [Ph.via,hq,this]
theorem ais {f nn n l:Nat} {fn:Func} {body:Code} {args:List AV} {t:List (Nat×AV)} {M:Mem} {rec:Loop} (hf:P.funcs[f]?=some fn) (hb:fn.body=some body) (hn:fn.ntmps=nn) (hlen:Nat.ble args.length nn=true) (hM:tD M=true) (ht:p8 0 args=some t) (hr:fn.results=#[])
  {w:World} {vs:Array Value} {φ:Ph} {R:Nat→Prop} (oD:args.length=vs.size) (fq:∀(i:Nat) (c:AV) (v:Value),args[i]?=some c→vs[i]?=some v→Rel w R φ c v) (fP:gq w R φ M) (ma:∀b x,φ b=some x→∃y,lk b M=some y) (eJ:∀n,R n→n<w.heap.size)
  {FX:Mem→Prop} {FZ:Loop→Mem→Prop} (h:oN P n ⟨w,cG φ M,R,φ,[]⟩ l body (oc fun s=>∃M',FX M'∧pD M M' s) (fun d=>oc fun s=>∃M',FZ d M'∧pD M M' s) ⟨nn,t,M⟩):
  CallsIn Fence.wide n P f vs w fun e w'=>(∃v,e=.returned v)∧((∃M' φ' R',FX M'∧gh w φ R M M' w' φ' R')∨(∃d M' φ' R',FZ d M'∧gh (w.putObj l (.loop d)) φ R M M' w' φ' R')):=by
 have hle:args.length≤nn:=Nat.le_of_ble_eq_true hlen
 have jl:cz ⟨w,cG φ M,R,φ,[]⟩ φ R ⟨nn,t,M⟩ {tmps:=vs++Array.replicate (fn.ntmps -vs.size) undef,defers:=[]} w:=by
  refine⟨by simp [hn];omega,fun q av hq=>?_,fP,ma,fun b k x hb hx=>.inr ⟨b,k,x,hb,hx,rfl⟩,fun _ h=>h,fun _ h=>.inl h,eJ,Ext.refl _ _,rfl,fun b _=>.inr rfl⟩;rw [←yr ht] at hq;obtain⟨_,h2⟩:=yi args 0 q av hq;simp only [Nat.sub_zero] at h2;have bB:q<vs.size:=by rw [←oD];exact(List.getElem?_eq_some_iff.1 h2).1
  have:=fq q av vs[q] h2 (by simp [bB]);simpa [Array.getD_eq_getD_getElem?,Array.getElem?_append_left bB,bB] using this
 refine callsIn_of_wp hf hb trivial (wpIn_mono (h _ w ⟨φ,R,jl⟩) ?_) rfl
 have sk:∀{c:Ctx} {s':St} {a':Act} {w':World},dh c s' a' w'→c.ds=[]→a'.defers=[]∧∃v,(results fn a'.tmps).run P w'=.ok v w':=by
  rintro c s' a' w' ⟨fQ,R1,dc⟩ rn;obtain⟨v,g1,_⟩:=yh (P:=P) (fn:=fn) dc (vs:=[]) (by rw [hr];trivial);exact⟨dc.d.trans rn,v,g1⟩
 rintro e a' w' (⟨s',cu,hq⟩|⟨d,s',cu,hq⟩)
 ·have hx:e=.normal∨e=.ret:=by
   cases e<;>first|exact .inl rfl|exact .inr rfl|exact hq.elim
  have mB:∃M',FX M'∧pD M M' s':=by rcases hx with rfl|rfl<;>exact hq
  obtain⟨M',hF,vT⟩:=mB;obtain⟨φ',R',hp⟩:=Ka hM cu vT;obtain⟨hd,v,hv⟩:=sk cu rfl;rcases hx with rfl|rfl;all_goals exact⟨hd,v,hv,⟨v,rfl⟩,.inl ⟨M',φ',R',hF,hp⟩⟩
 ·have hx:e=.normal∨e=.ret:=by
   cases e<;>first|exact .inl rfl|exact .inr rfl|exact hq.elim
  have mB:∃M',FZ d M'∧pD M M' s':=by rcases hx with rfl|rfl<;>exact hq
  obtain⟨M',hF,vT⟩:=mB;obtain⟨φ',R',hp⟩:=Ka (w:=w.putObj l (.loop d)) hM cu vT;obtain⟨hd,v,hv⟩:=sk cu rfl;rcases hx with rfl|rfl;all_goals exact⟨hd,v,hv,⟨v,rfl⟩,.inr ⟨d,M',φ',R',hF,hp⟩⟩
def Kb (F:St→Prop):Exit→St→Prop
 |.ret,s=>F s
 |_,_=>False
def pF (rec:Loop):Loop:={rec with state:=.done,pending:=some .ret}
end Go.Ab
namespace Go.Ab
open Go.RowKit
variable{P:Program}
theorem ait {g:Operand} {ps:Array Tmp} {assign body:Code} {Q:Exit→Act→World→Prop} {a:Act} {w:World} {n gf:Nat} {lb:Array Value} {φ:Ph} {R:Nat→Prop} {M:Mem} {FX FZ:Mem→Prop}
  (hg:a.eval g=.func (.func gf) #[] lb) (eg:∀args w,(callFunc gf args).run P w=.ok (.enter gf args) w) (fP:gq w R φ M) (ma:∀b x,φ b=some x→∃y,lk b M=some y) (eJ:∀n,R n→n<w.heap.size)
  (FM:∀(W1:World) (rec:Loop) (fn:FuncId),rec={state:=.ready,pending:=none,fn,tmps:=a.tmps,params:=ps,assign,body,defers:=w.heap.size}→W1.heap[w.heap.size+1]?=some (.loop rec)→gh w φ R M M W1 φ R→¬R (w.heap.size+1)→
   CallsIn Fence.wide (n -1) P gf (#[.func (.yield (w.heap.size+1)) #[] #[]]++lb) W1 fun e w'=>(∃v,e=.returned v)∧((∃M' φ' R',FX M'∧gh W1 φ R M M' w' φ' R')∨(∃M' φ' R',FZ M'∧gh (W1.putObj (w.heap.size+1) (.loop (pF rec))) φ R M M' w' φ' R')))
  (Kc:∀(D:Nat) (W:World) (M':Mem) (φ':Ph) (R':Nat→Prop),FX M'→gh w φ R M M' W φ' R'→w.heap.size≤D→¬R' D→W.heap[D]?=some (.deferred (some []))→Q .normal {a with defers:={target:=.collected D,args:=#[]}::a.defers} W)
  (Kd:∀(D:Nat) (W:World) (M':Mem) (φ':Ph) (R':Nat→Prop),FZ M'→gh w φ R M M' W φ' R'→w.heap.size≤D→¬R' D→W.heap[D]?=some (.deferred (some []))→Q .ret {a with defers:={target:=.collected D,args:=#[]}::a.defers} W)
  (yS:∀(M':Mem),FX M'∨FZ M'→∀b k k',lk b M=some (some k)→lk b M'=some (some k')→∃k1,lk b M=some (some k1)):
  (Code.rangeFunc g ps assign body).wpIn Fence.wide n P Q a w:=by
 refine wpIn_rangeFunc ?_;intro fn yp;obtain⟨rec,mf⟩:∃rec:Loop,rec={state:=.ready,pending:=none,fn,tmps:=a.tmps,params:=ps,assign,body,defers:=w.heap.size}:=⟨_,rfl⟩
 obtain⟨W1,sA⟩:∃W1,(w.alloc (.deferred (some []))).alloc (.loop rec)=W1:=⟨_,rfl⟩
 have Ga:W1.heap[w.heap.size+1]?=some (.loop rec):=by
  rw [←sA];have:=World.alloc_heap_new (w.alloc (.deferred (some []))) (.loop rec);rwa [World.size_alloc] at this
 have Ke:W1.heap[w.heap.size]?=some (.deferred (some [])):=by
  rw [←sA];exact(Below.heap_alloc _ _ _ (by simp)).trans (World.alloc_heap_new w _)
 have pG:gh w φ R M M W1 φ R:=by
  refine(gh.refl fP ma eJ).grow ?_ ?_ ?_ ?_ ?_ (by rw [←sA];exact Nat.le_refl _)
  ·rw [←sA,World.size_alloc,World.size_alloc];omega
  ·intro n hn;rw [←sA];exact(Below.heap_alloc _ _ _ (by simp;omega)).trans (Below.heap_alloc _ _ _ hn)
  ·rw [←sA];rfl
  ·rw [←sA];rfl
  ·rw [←sA];rfl
 have Kf:w.heap.size+1<W1.heap.size:=(Array.getElem?_eq_some_iff.1 Ga).1
 have Gb:∀{W:World} {φ':Ph} {R':Nat→Prop} {M':Mem} {n:Nat} {o:Obj},gq W R' φ' M'→W.heap[n]?=some o→(∀C t,o≠.cells C t (0,0))→¬cG φ' M' n:=by
  intro W φ' R' M' n o hm ho ep hb;obtain⟨C,t,hC⟩:=hm.cells hb;rw [ho] at hC;cases hC;exact ep _ _ rfl
 have Gc:¬cG φ M (w.heap.size+1):=Gb pG.mem Ga (fun _ _ h=>by cases h);have Kg:¬cG φ M w.heap.size:=Gb pG.mem Ke (fun _ _ h=>by cases h)
 have lC:∀{W:World} {φ':Ph} {R':Nat→Prop} {M':Mem} {Kh:World},Kh.heap.size=W1.heap.size→gh Kh φ R M M' W φ' R'→¬R' (w.heap.size+1)∧¬R' w.heap.size:=by
  intro W φ' R' M' Kh hs h;constructor
  ·intro q;rcases h.Rn _ q with z|z|z
   ·have:=eJ _ z;omega
   ·omega
   ·exact Gc z
  ·intro q;rcases h.Rn _ q with z|z|z
   ·have:=eJ _ z;omega
   ·omega
   ·exact Kg z
 refine⟨w.heap.size+1,[{target:=.collected w.heap.size,args:=#[]}],W1,{target:=.fn (.func gf) lb,args:=#[.func (.yield (w.heap.size+1)) #[] #[]]},W1,gf,
  #[.func (.yield (w.heap.size+1)) #[] #[]]++lb,W1,?_,?_,fun _ _=>trivial,?_,fun h=>by simp [Fence.wide] at h,?_⟩
 ·rw [←sA,mf];exact run_enterLoop_outer _ _ _ _ _
 ·simp only [resolve,hg];simp [go_sem]
 ·simp [invoke,go_sem,eg]
 refine(FM W1 rec fn mf Ga pG (fun h=>by have:=eJ _ h;omega)).mono ?_;rintro e W2 ⟨⟨v,rfl⟩,⟨M',φ',R',hF,h2⟩|⟨M',φ',R',hF,h2⟩⟩
 ·obtain⟨n1,n2⟩:=lC rfl h2;have nJ:W2.heap[w.heap.size+1]?=some (.loop rec):=(h2.ext.block _ Kf Gc).trans Ga;have Ki:W2.heap[w.heap.size]?=some (.deferred (some [])):=(h2.ext.block _ (by omega) Kg).trans Ke;refine⟨none,_,by have:=run_endLoop (P:=P) nJ (by rw [mf];simp);rw [show rec.pending=none by rw [mf]] at this;exact this,?_⟩
  have Kj:=pG.trans h2 (fun b k k' q1 q2=>yS M' (.inl hF) b k k' q1 q2);exact Kc _ _ M' φ' R' hF (Kj.put (l:=w.heap.size+1) (by omega) n1 (Gb h2.mem nJ (fun _ _ h=>by cases h)) (fun n hn=>World.putObj_heap_other (by omega)) (by simp [World.putObj]) rfl rfl rfl) (Nat.le_refl _) n2 ((World.putObj_heap_other (by omega)).trans Ki)
 ·have Gd:∀{o:Obj},(W1.putObj (w.heap.size+1) o).heap.size=W1.heap.size:=by intro o;simp [World.putObj]
  obtain⟨n1,n2⟩:=lC Gd h2
  have nJ:W2.heap[w.heap.size+1]?=some (.loop (pF rec)):=by
   rw [h2.ext.block _ (by rw [Gd];exact Kf) Gc];exact World.putObj_heap_same Kf
  have Ki:W2.heap[w.heap.size]?=some (.deferred (some [])):=by
   rw [h2.ext.block _ (by rw [Gd];omega) Kg,World.putObj_heap_other (by omega)];exact Ke
  refine⟨some .ret,_,by have:=run_endLoop (P:=P) nJ (by simp [pF]);exact this,?_⟩;have aiu:gh w φ R M M (W1.putObj (w.heap.size+1) (.loop (pF rec))) φ R:=pG.put (l:=w.heap.size+1) (by omega) (fun h=>by have:=eJ _ h;omega) Gc (fun n hn=>World.putObj_heap_other (by omega)) Gd rfl rfl rfl;have Kj:=aiu.trans h2 (fun b k k' q1 q2=>yS M' (.inr hF) b k k' q1 q2);refine wpIn_ret (Kd _ _ M' φ' R' hF (Kj.put (l:=w.heap.size+1) (by omega) n1 (Gb h2.mem nJ (fun _ _ h=>by cases h)) (fun n hn=>World.putObj_heap_other (by omega)) (by simp [World.putObj]) rfl rfl rfl) (Nat.le_refl _) n2 ((World.putObj_heap_other (by omega)).trans Ki))
theorem Ge {fn:Func} {r:AV} {c:Ctx} {M:Mem} {W:World} {φ mQ:Ph} {R R3:Nat→Prop} {D:Nat} {ds:List Deferred} {h:St} {B9:Act} {w':World} (gi:cz ⟨W,cG φ M,R,φ,ds⟩ mQ R3 h B9 w') (vT:mz P fn [] r [] h) (Kk:B9.defers=[{target:=.collected D,args:=#[]}]) (hm:gq W R φ M)
  (hD:W.heap[D]?=some (.deferred (some []))) (qc:¬R D) (vU:∀n,c.R0 n→R n) (vV:∀n,R n→c.R0 n∨c.w0.heap.size≤n∨c.G n) (ig:∀n,cG φ M n→c.w0.heap.size≤n∨c.G n) (ry:Ext c.w0 W c.G) (yV:c.w0.heap.size≤D):ZM P fn r c B9 w':=by
 have U1:D<W.heap.size:=(Array.getElem?_eq_some_iff.1 hD).1
 have U2:¬cG φ M D:=fun hb=>by
  obtain⟨C,t,hC⟩:=hm.cells hb;rw [hD] at hC;cases hC
 have U3:w'.heap[D]?=some (.deferred (some [])):=by rw [gi.ext.block D U1 U2];exact hD
 have aiv:¬R3 D:=fun q=>by
  rcases gi.Rn D q with q|q|q
  ·exact qc q
  ·exact absurd q (Nat.not_le.2 U1)
  ·exact U2 q
 have aiw:¬cG mQ h.m D:=fun hb=>by
  obtain⟨C,t,hC⟩:=gi.m.cells hb;rw [U3] at hC;cases hC
 have he:∀k,k≠D→(w'.putObj D (.deferred none)).heap[k]?=w'.heap[k]?:=fun k hk=>World.putObj_heap_other hk
 have dj:(w'.putObj D (.deferred none)).heap.size=w'.heap.size:=by simp [World.putObj]
 have oE:∀k,R3 k→(w'.putObj D (.deferred none)).heap[k]?=w'.heap[k]?:=fun k hk=>he k (fun e=>aiv (e▸hk))
 have U4:cz ⟨w'.putObj D (.deferred none),cG mQ h.m,R3,mQ,B9.defers⟩ mQ R3 h B9 (w'.putObj D (.deferred none)):=by
  refine⟨gi.n,fun t av ht=>(gi.t t av ht).mono oE (fun _ h=>h) (fun _ _ h=>h),⟨fun b k hb=>?_,gi.m.inj,gi.m.fA,gi.m.gl.mono oE (fun _ h=>h)⟩,gi.fZ,fun b k x hb hx=>.inr ⟨b,k,x,hb,hx,rfl⟩,fun _ h=>h,fun _ h=>.inl h,fun k hk=>by rw [dj];exact gi.Rb k hk,Ext.refl _ _,rfl,fun b _=>.inr rfl⟩;obtain⟨oh,h4,h5⟩:=gi.m.rel b k hb;exact⟨oh,h4,h5.mono oE (fun x hx=>he _ (fun e=>aiw (e▸⟨b,k,x,hb,by rw [h4,hx],rfl⟩))) (fun _ _ h=>h)⟩
 obtain⟨vs,ρ,f1,f2,f3,f4,f5⟩:=vT;obtain⟨v,g1,g2⟩:=yh U4 f1;refine⟨D,Kk,U3,v,mQ.via ρ,R3,g1,mE U4.m (m:=[]) (fun _ h=>h) (fun b k h hb=>by simp [lk] at hb) g2 f4,fun k hk=>gi.R0 k (vU k hk),fun k hk=>?_,gi.Rb,?_⟩
 ·rcases gi.Rn k hk with q|q|q
  ·exact vV k q
  ·exact .inr (.inl (Nat.le_trans ry.size q))
  ·exact .inr (ig k q)
 ·refine(ry.trans gi.ext fun i hi hg=>?_).trans (G':=fun i=>i=D) ⟨rfl,rfl,rfl,Nat.le_refl _,by rw [dj];exact Nat.le_refl _,fun i _ hi=>he i hi⟩ fun i hi hg=>?_
  ·rcases ig i hg with q|q
   ·exact absurd q (Nat.not_le.2 hi)
   ·exact q
  ·omega
theorem aix {fn:Func} {r:AV} {n:Nat} {t:List (Nat×AV)} {M:Mem} {rest:Code} {Q:Exit→St→Prop} {c:Ctx} {a:Act} {W:World} {φ:Ph} {R:Nat→Prop} {D:Nat} (Bq:dO P W.heap.size rest (Kb (BL P fn r)) ⟨n,t,M⟩)
  (hn:a.tmps.size=n) (ht:∀q av,lk q t=some av→Rel W R φ av (a.tmps.getD q undef)) (hm:gq W R φ M) (ma:∀b x,φ b=some x→∃y,lk b M=some y) (eJ:∀m,R m→m<W.heap.size)
  (hD:W.heap[D]?=some (.deferred (some []))) (qc:¬R D) (vU:∀n,c.R0 n→R n) (vV:∀n,R n→c.R0 n∨c.w0.heap.size≤n∨c.G n) (ig:∀n,cG φ M n→c.w0.heap.size≤n∨c.G n) (ry:Ext c.w0 W c.G) (yV:c.w0.heap.size≤D):
  rest.wp P (fun e a' w'=>(∃s',dh c s' a' w'∧Q e s')∨(e=.ret∧ZM P fn r c a' w')) {a with defers:=[{target:=.collected D,args:=#[]}]} W:=by
 have jl:cz ⟨W,cG φ M,R,φ,[{target:=.collected D,args:=#[]}]⟩ φ R ⟨n,t,M⟩ {a with defers:=[{target:=.collected D,args:=#[]}]} W:=⟨hn,ht,hm,ma,fun b k x hb hx=>.inr ⟨b,k,x,hb,hx,rfl⟩,fun _ h=>h,fun _ h=>.inl h,eJ,Ext.refl _ _,rfl,fun b _=>.inr rfl⟩;refine wp_mono (Bq ⟨W,cG φ M,R,φ,[{target:=.collected D,args:=#[]}]⟩ rfl _ W ⟨φ,R,jl⟩) ?_;rintro e a' w' ⟨s',cu,hq⟩;cases e with
 |ret=>
  refine .inr ⟨rfl,?_⟩;rcases hq with hq|⟨h,hw,hq⟩
  ·obtain⟨mQ,R3,gi⟩:=cu;exact Ge gi hq gi.d hm hD qc vU vV ig ry yV
  ·obtain⟨mQ,R3,gi⟩:=cu.freeze hw;exact Ge gi hq gi.d hm hD qc vU vV ig ry yV
 |_=>exact hq.elim
end Go.Ab
namespace Go.Ab
open Go.RowKit
section
variable{P:Program} {o:Oper} {s:St} {lim:Nat}
theorem yW {ops:Array Oper} {id:Nat} {Q:Exit→St→Prop} {l:List Oper} (tq:ops.toList.dropLast=l) (vL:ops.toList.getLast?=some o) (hg:o.guard=none)
  (h:Go P ops false (fun s1=>∃(C:Bool→Prop) (S:Bool→St),(∀(c:Ctx) (a:Act) (w:World) (next:Act→World→Prop) (Q:Exit→Act→World→Prop),dh c s1 a w→(∀b a' w',C b→dh c (S b) a' w'→next a' w')→o.wp P a w next Q)∧∀b,C b→Q .normal (S b)) l s []):dO P lim (.region id ops false) Q s:=by
 have BR:ops.toList=l++[o]:=by
  rw [←tq];obtain⟨ys,hy⟩:=List.getLast?_eq_some_iff.1 vL;rw [hy];simp
 intro c eu a w hs;have dj:ops.size=l.length+1:=by rw [←Array.length_toList,BR];simp
 have mD:∀i,ops[i]?=(l++[o])[i]?:=fun i=>by rw [←BR,Array.getElem?_toList]
 obtain⟨rr,h1,_,h3⟩:=h;obtain⟨i1,i2⟩:=vn l rr 0 h1.symm;refine wp_region ?_
 have:=FN (P:=P) (js:=[l.length]) (Q:=fun e a' w'=>∃s',dh c s' a' w'∧Q e s') (ops:=ops) (c:=c) (fun s1 a1 w1 hq dc=>?_) (items 0 l rr) s a w (fun x hx=>by
  obtain⟨g1,g2⟩:=i2 x hx;rw [Nat.sub_zero] at g2;rw [mD,List.getElem?_append_left (List.getElem?_eq_some_iff.1 g2).1];exact g2) (h3 0) hs
 ·rw [i1] at this;rw [dj,List.range_succ];simpa using this
 ·obtain⟨C,S,bS,Kl⟩:=hq;rw [wpOps_cons];exact aaV (by rw [mD];simp) hg dc (bS c a1 w1 _ _ dc fun b a' w' hb cu=>⟨S b,cu,Kl b hb⟩)
theorem aiy (d t e:Nat) (p:Option Addr) (n k:Nat) (h:P.underlying t=some (.slice e)) (w:World):(Op.equalIn (d+1) t (.slice p n k) (.slice none 0 0)).run P w=.ok p.isNone w:=by
 cases p<;>simp [Op.equalIn,run_underlying h]
theorem aiz (t e:Nat) (p:Option Addr) (n k:Nat) (h:P.underlying t=some (.slice e)) (w:World):(Op.equal t (.slice p n k) (.slice none 0 0)).run P w=.ok p.isNone w:=aiy 9999 t e p n k h w
theorem yX {t ty e:Nat} {x y:Operand} {xs:List AV} (ho:o.op=.binOp .eql t x y ty) (hu:P.underlying t=some (.slice e)) (hx:s.ev x=.sl xs) (hy:s.ev y=.bF)
  (c:Ctx) (a:Act) (w:World) (next:Act→World→Prop) (Q:Exit→Act→World→Prop) (hs:dh c s a w) (hn:∀b a' w',(b=true→xs=[])→dh c (s.put o.dst (.sc (.bool b))) a' w'→next a' w'):o.wp P a w next Q:=by
 obtain⟨φ,R,cR⟩:=hs;have h1:=cR.ev x;rw [hx] at h1;have h2:=cR.ev y;rw [hy] at h2;generalize hq:a.eval x=q at h1;generalize Kl:a.eval y=q2 at h2;cases h2 with
 |bF=>
  have go:∀(p:Option Addr) (n k:Nat),q=.slice p n k→(p.isNone=true→xs=[])→o.wp P a w next Q:=by
   intro p n k IW hb
   have fG:(execOp a.eval o).run P w=.ok (.value (.bool p.isNone)) w:=by
    simp [execOp,ho,hq,Kl,IW,eqGuard,binOp,aiz t e p n k hu]
   unfold Oper.wp;rw [fG];exact hn p.isNone _ _ hb ⟨φ,R,cR.put _ (.sc rfl)⟩
  cases h1 with
  |jG=>exact go _ _ _ rfl (fun _=>rfl)
  |sl f he hR lZ hl hc hr=>exact go _ _ _ rfl (fun h=>by cases h)
end
section
variable{P:Program} {tt:TT} {ops:Array Oper} {draw:Bool} {Q:St→Prop} {acc:List (Option dN)} {l:List Oper} {n:Nat} {t:List (Nat×AV)} {m:Mem}
theorem aiA {w:World} {R:Nat→Prop} {φ:Ph} {cs ds:List AV} {v:Value} (h:Rel w R φ (.vp (cs++ds)) v):Rel w R φ (.vp cs) v:=by
 cases h with
 |vp f hR hc hr=>
  refine .vp f hR (fun k hk=>hc k (by simp;omega)) (fun j c hj=>hr j c ?_);rw [List.getElem?_append_left (List.getElem?_eq_some_iff.1 hj).1];exact hj
theorem aiB {o:Oper} {s:St} {t n e:Nat} {x y:Operand} {D E:ae} {k:IntKind} {i:Int} {cs l l2:List AV} (ho:o.op=.indexAddr t x y) (h:az P t=some D) (hk:D.k=.array n e) (hE:az P e=some E) (hx:s.ev x=.vp cs) (hy:s.ev y=.sc (.int k i))
  (kE:0≤i) (hi:i<n) (hl:kD cs (i.toNat*E.size)=some (l++l2)):cM P o s ⟨.vp l,[],[],[]⟩:=by
 intro s' _ bS _ _;refine f_ fun c φ R a w hs=>?_
 have h1:=hs.ev x;rw [bS x (by simp [ho,Op.operands]),hx] at h1;have h2:=hs.ev y;rw [bS y (by simp [ho,Op.operands]),hy] at h2;have h2:=h2.gI;generalize hq:a.eval x=q at h1;have om:=h1;cases h1 with
 |@vp _ _ b off f hR hc hr=>
  exact⟨.pointer (some ⟨b,off+i.toNat*E.size,none⟩),by simp [execOp,ho,hq,h2,run_indexAt_array h hk hE kE hi],aiA (Ij om hl)⟩
theorem U5 {α:Type} (enc:α→AV) (z:Nat) (hz:∀g,(enc g).cells.length=z):∀(gs:List α) (j:Nat) (w:α),gs[j]?=some w→∃l2,kD (gs.flatMap fun g=>(enc g).cells) (j*z)=some ((enc w).cells++l2)
 |[],j,w,h=>by simp at h
 |g::gs,0,w,h=>by
  simp at h;subst h;exact⟨gs.flatMap fun g=>(enc g).cells,by rw [Nat.zero_mul,FQ _ _ (Nat.zero_le _)];rfl⟩
 |g::gs,j+1,w,h=>by
  have hj:gs[j]?=some w:=by simpa using h
  obtain⟨l2,h2⟩:=U5 enc z hz gs j w hj
  have hlen:(gs.flatMap fun g=>(enc g).cells).length=gs.length*z:=by
   clear h2 hj h
   induction gs with
   |nil=>simp
   |cons q qs ih=>rw [List.flatMap_cons,List.length_append,hz,ih,List.length_cons,Nat.succ_mul,Nat.add_comm]
  have bB:=(List.getElem?_eq_some_iff.1 hj).1;have hle:j*z≤gs.length*z:=Nat.mul_le_mul_right _ (Nat.le_of_lt bB);rw [FQ _ _ (by rw [hlen];exact hle)] at h2;refine⟨l2,?_⟩;rw [List.flatMap_cons,FQ _ _ (by rw [List.length_append,hlen,hz,Nat.succ_mul];omega)];rw [←Option.some.inj h2];congr 1;rw [Nat.succ_mul,Nat.add_comm (j*z) z,←List.drop_drop,List.drop_append_of_le_length (by rw [hz];exact Nat.le_refl _),←hz g,List.drop_length,List.nil_append]
theorem aiC {α:Type} {o:Oper} {nn ty e:Nat} {t':List (Nat×AV)} {x y:Operand} {D E:ae} {k:IntKind} {cs:List AV} (enc:α→AV) (gs:List α) (jx:Int) (w:α) (hw:aC gs jx=some w) (ht:ff P tt) (hg:dV ops ⟨n,t,m⟩ o=some true) (ho:o.op=.indexAddr ty x y) (hD:lk ty tt=some D) (hk:D.k=.array nn e) (hE:lk e tt=some E) (hn:gs.length=nn) (hz:∀g,(enc g).cells.length=E.size)
  (hx:(⟨n,t,m⟩:St).ev x=.vp cs) (yY:cs=gs.flatMap fun g=>(enc g).cells) (hy:(⟨n,t,m⟩:St).ev y=.sc (.int k jx)) (hp:fB n t o.dst (.vp (enc w).cells)=some t') (h:Go P ops draw Q l ⟨n,t',m⟩ (some ⟨.vp (enc w).cells,[],[],[]⟩::acc)):Go P ops draw Q (o::l) ⟨n,t,m⟩ acc:=by
 obtain⟨h1,h2,h3⟩:=aa1 hw;obtain⟨l2,nJ⟩:=U5 enc E.size hz gs jx.toNat w h3;rw [←yY] at nJ;exact eL hg (aiB (P:=P) (s:=⟨n,t,m⟩) ho (ht _ _ hD) hk (ht _ _ hE) hx hy h1 (by omega) nJ) rfl hp rfl h
end
theorem cz.swap {c:Ctx} {φ:Ph} {R:Nat→Prop} {s:St} {a:Act} {w:World} (h:cz c φ R s a w) {b:Nat} {k k':eI} (hb:lk b s.m=some (some k)) (hk:∀oh,iB w R φ oh k→iB w R φ oh k'):cz c φ R {s with m:=(b,some k')::s.m} a w:=by
 have Gf:∀b2 k2,lk b2 ((b,some k')::s.m)=some (some k2)→∃k3,lk b2 s.m=some (some k3):=by
  intro b2 k2 h2;rw [dP] at h2;split at h2
  ·rename_i e;cases e;exact⟨k,hb⟩
  ·exact⟨k2,h2⟩
 refine⟨h.n,h.t,⟨?_,?_,?_,h.m.gl⟩,?_,?_,h.R0,h.Rn,h.Rb,h.ext,h.d,h.eK⟩
 ·intro b2 k2 h2;rw [dP] at h2;split at h2
  ·rename_i e;cases e;cases h2;obtain⟨oh,h3,h4⟩:=h.m.rel b k hb;exact⟨oh,h3,hk oh h4⟩
  ·exact h.m.rel b2 k2 h2
 ·intro b1 b2 k1 k2 h1 h2 e1 e2;obtain⟨k3,e3⟩:=Gf _ _ e1;obtain⟨k4,e4⟩:=Gf _ _ e2;exact h.m.inj b1 b2 k3 k4 h1 h2 e3 e4
 ·intro b1 k1 h1 e1;obtain⟨k3,e3⟩:=Gf _ _ e1;exact h.m.fA b1 k3 h1 e3
 ·intro b1 x h1;obtain⟨y,hy⟩:=h.fZ b1 x h1;by_cases e:b1=b
  ·subst e;exact⟨some k',by rw [dP];simp⟩
  ·exact⟨y,by rw [dP];split;(rename_i e2;exact absurd e2 (by first|exact e|exact fun q=>e q.symm));exact hy⟩
 ·intro b1 k1 h1 e1;obtain⟨k3,e3⟩:=Gf _ _ e1;exact h.fresh b1 k3 h1 e3
theorem iB.take {w:World} {R:Nat→Prop} {φ:Ph} {T z:Nat} {xs:List AV} (n:Nat) (oh:Option Home) (h:iB w R φ oh ⟨T,z,xs⟩):iB w R φ oh ⟨T,z,xs.take n⟩:=by
 cases oh with
 |none=>
  have:xs=[]:=h;subst this;show List.take n []=[]
  simp
 |some x=>
  obtain⟨h1,h2,h3,h4,C,h5,h6,h7⟩:=h;refine⟨h1,h2,Nat.le_trans (by simp [Nat.min_le_right]) h3,h4,C,h5,h6,fun i y hy=>h7 i y ?_⟩;have hy:(xs.take n)[i]?=some y:=hy;rw [List.getElem?_take] at hy;split at hy
  ·exact hy
  ·cases hy
section
variable{P:Program} {o:Oper} {s:St}
theorem aiD {t e b len bt bz:Nat} {x:Operand} {hi:Operand} {D E:ae} {xs:List AV} {kk:IntKind} {h:Int} (ho:o.op=.slice t x none (some hi) none) (hD:az P t=some D) (hk:D.k=.slice e) (hE:az P e=some E) (hx:s.ev x=.arr b 0 len) (hb:lk b s.m=some (some ⟨bt,bz,xs⟩)) (jj:bz=E.size) (jV:s.ev hi=.sc (.int kk h)) (h0:0≤h) (h3:h≤len):
  cM P o s ⟨.arr b 0 h.toNat,[(b,some ⟨bt,bz,xs.take h.toNat⟩)],[b],[]⟩:=by
 have ot:=pg hD hk;intro s' _ bS fE _;have gH:lk b s'.m=some (some ⟨bt,bz,xs⟩):=by rw [fE b (by simp)];exact hb
 refine tl fun c φ R a w hs=>?_
 have e0:=hs.ev x;rw [bS x (by simp [ho,Op.operands]),hx] at e0;have yE:=fun cap lE=>JE (P:=P) w true len cap (Option.map a.eval none) (Option.map a.eval (some hi)) 0 h rfl ⟨kk,BQ hs jV (bS hi (by simp [ho,Op.operands]))⟩ (by omega) h0 (by omega) lE
 generalize hq:a.eval x=q at e0;have U6:=hs.swap gH (k':=⟨bt,bz,xs.take h.toNat⟩) (fun oh hr=>hr.take _);cases e0 with
 |kg fO=>
  have e1:h=0:=by omega
  subst e1;refine⟨.slice none 0 0,w,φ,R,?_,cz.app (s:=s') U6 o.dst (.kg fO)⟩;have:=yE 0 (Nat.le_refl _);simp only [execOp,ho,hq,Instr.sliceAt,Instr.slice];simp at this;simp [run_underlying ot w,this,run_sizeOf hE w]
 |@arr _ _ _ _ cap hm fO lE tu=>
  obtain⟨oh,fF,hr⟩:=hs.m.rel b _ gH;rw [fO] at fF;cases fF;have Bc:E.size=hm.bW:=by rw [←hr.1,jj]
  refine⟨.slice (some ⟨hm.cA,0*hm.bW,none⟩) h.toNat cap,w,φ,R,?_,cz.app (s:=s') U6 o.dst (.arr fO (by omega) (by omega))⟩;have:=yE cap lE;simp only [execOp,ho,hq,Instr.sliceAt,Instr.slice];simp at this;simp [run_underlying ot w,this,run_sizeOf hE w,q7,Bc]
end
section
variable{P:Program} {tt:TT} {ops:Array Oper} {draw:Bool} {Q:St→Prop} {acc:List (Option dN)} {l:List Oper} {n:Nat} {t:List (Nat×AV)} {m:Mem}
def kJ {α:Type} (xs:List α) (h:Int):Option (List α):=bif decide (0≤h)&&decide (h≤(xs.length:Int)) then some (xs.take h.toNat) else none
theorem rz {α:Type} {o:Oper} {ty e b len bt bz:Nat} {t':List (Nat×AV)} {m':Mem} {x hi:Operand} {D E:ae} {kk:IntKind} (enc:α→AV) (xs zs:List α) (h:Int) (oI:kJ xs h=some zs) (hlen:len=xs.length) (ht:ff P tt) (hg:dV ops ⟨n,t,m⟩ o=some true) (ho:o.op=.slice ty x none (some hi) none) (hD:lk ty tt=some D) (hk:D.k=.slice e) (hE:lk e tt=some E)
  (hx:(⟨n,t,m⟩:St).ev x=.arr b 0 len) (hb:lk b m=some (some ⟨bt,bz,xs.map enc⟩)) (hz:Nat.beq bz E.size=true) (jV:(⟨n,t,m⟩:St).ev hi=.sc (.int kk h)) (hp:fB n t o.dst (.arr b 0 zs.length)=some t') (hm:mc [(b,some ⟨bt,bz,zs.map enc⟩)] m=some m')
  (hq:Go P ops draw Q l ⟨n,t',m'⟩ (some ⟨.arr b 0 zs.length,[(b,some ⟨bt,bz,zs.map enc⟩)],[b],[]⟩::acc)):Go P ops draw Q (o::l) ⟨n,t,m⟩ acc:=by
 unfold kJ at oI;cases hc:(decide (0≤h)&&decide (h≤(xs.length:Int))) with
 |false=>rw [hc] at oI;cases oI
 |true=>
  rw [hc] at oI;have e1:xs.take h.toNat=zs:=Option.some.inj oI;simp only [Bool.and_eq_true,decide_eq_true_eq] at hc;have hA:=aiD (P:=P) (s:=⟨n,t,m⟩) ho (ht _ _ hD) hk (ht _ _ hE) hx hb (Nat.eq_of_beq_eq_true hz) jV hc.1 (by omega);have e2:h.toNat=zs.length:=by rw [←e1,List.length_take];omega
  rw [←List.map_take,e1,e2] at hA;exact eL hg hA rfl hp hm hq
end
def Km:AV→AV
 |.bF=>.sl []
 |x=>x
theorem aiE {w:World} {R:Nat→Prop} {φ:Ph} {c:AV} {u:Value} (h:Rel w R φ c u):Rel w R φ (Km c) u:=by
 cases c with
 |bF=>cases h;exact .jG
 |_=>exact h
theorem aiF {w:World} {R:Nat→Prop} {φ:Ph} {oh:Option Home} {ty bW N:Nat} {cs:List AV} (h:iB w R φ oh ⟨ty,bW,List.replicate N (.agg cs)⟩):iB w R φ oh ⟨ty,bW,List.replicate N (.agg (cs.map Km))⟩:=by
 cases oh with
 |none=>
  simp only [iB] at h⊢;simpa using h
 |some x=>
  obtain⟨h1,h2,h3,h4,C,hC,hs,iS⟩:=h;refine⟨h1,h2,by simpa using h3,h4,C,hC,hs,fun i y hy=>?_⟩;dsimp only at hy;rw [List.getElem?_replicate] at hy;split at hy
  ·rename_i hi;cases hy;obtain⟨q1,q2⟩:=iS i (.agg cs) (by simp [hi]);refine⟨by simpa [AV.cells] using q1,fun j c hj=>?_⟩;simp only [AV.cells,List.getElem?_map] at hj;cases hc:cs[j]?with
   |none=>rw [hc] at hj;cases hj
   |some c0=>
    rw [hc] at hj;cases hj;obtain⟨u,hu,hr⟩:=q2 j c0 hc;exact⟨u,hu,aiE hr⟩
  ·cases hy
section
variable{P:Program} {tt:TT} {ops:Array Oper} {draw:Bool} {Q:St→Prop} {acc:List (Option dN)} {l:List Oper} {n:Nat} {t:List (Nat×AV)} {m:Mem}
theorem Kn {α:Type} {o:Oper} {ty e d:Nat} {t':List (Nat×AV)} {m':Mem} {x y:Operand} {D E:ae} {k:IntKind} {cs:List AV} (enc:α→AV) (z:α) (i:Int) (zs:List α) (oI:kn E.bytes z i=some zs) (ht:ff P tt) (hg:dV ops ⟨n,t,m⟩ o=some true) (ho:o.op=.makeSlice ty x y) (hD:lk ty tt=some D) (hk:D.k=.slice e) (hE:lk e tt=some E)
  (hx:(⟨n,t,m⟩:St).ev x=.sc (.int k i)) (hy:(⟨n,t,m⟩:St).ev y=.sc (.int k i)) (hz:Nat.blt 0 E.size=true) (jk:E.zero=.agg cs) (jj:enc z=.agg (cs.map Km)) (hd:o.dst=some d) (hn:mJ ⟨n,t,m⟩ [d]=true)
  (hp:fB n t (some d) (.arr d 0 zs.length)=some t') (hm:mc [(d,some ⟨e,E.size,zs.map enc⟩)] m=some m')
  (h:Go P ops draw Q l ⟨n,t',m'⟩ (some ⟨.arr d 0 zs.length,[(d,some ⟨e,E.size,zs.map enc⟩)],[],[d]⟩::acc)):Go P ops draw Q (o::l) ⟨n,t,m⟩ acc:=by
 obtain⟨rfl,h0,h1,h2⟩:=OD oI
 have hA:cM P o ⟨n,t,m⟩ ⟨.arr d 0 (List.replicate i.toNat z).length,[(d,some ⟨e,E.size,(List.replicate i.toNat z).map enc⟩)],[],[d]⟩:=by
  have:=NC (P:=P) (o:=o) (s:=⟨n,t,m⟩) (d:=d) ho (ht _ _ hD) hk (ht _ _ hE) hx hy hz h0 h1 h2;rw [jk] at this;have h5:=aa5 this fun w R φ oh=>aiF
  rw [List.map_replicate,jj,List.length_replicate];exact h5
 exact eL hg hA hn (by rw [hd];exact hp) hm h
end
variable{P:Program}
section
variable{lim:Nat} {Q:Exit→St→Prop} {s:St}
theorem aiG {code:Code} {Q':Exit→St→Prop} (h:ll P lim code Q s) (hq:∀e s,Q e s→Q' e s):ll P lim code Q' s:=fun lp n c hc a w hs=>wpIn_mono (h lp n c hc a w hs) fun _ _ _ ⟨s',h1,h2⟩=>⟨s',h1,hq _ _ h2⟩
theorem dK {id:Nat} {ops:Array Oper} {draw:Bool} (bX:P.follows .mixedOrders=true) (hd:ops.toList.all F7=true) (h:Go P ops draw (Q .normal) ops.toList s []):ll P lim (.region id ops draw) Q s:=aiG (aij bX hd h) fun e s h=>by
 cases e<;>first|exact h|exact h.elim
theorem mR (h:Q .normal s):ll P lim .skip Q s:=fun _ _ _ _ _ _ hs=>wpIn_skip ⟨s,hs,h⟩
theorem tT (h:Q .ret s):ll P lim .ret Q s:=fun _ _ _ _ _ _ hs=>wpIn_ret ⟨s,hs,h⟩
theorem eo {x y:Code} (h:ll P lim x (iA (ll P lim y Q) Q) s):ll P lim (.seq x y) Q s:=by
 intro lp n c eu a w hs;refine wpIn_seq (wpIn_mono (h lp n c eu a w hs) ?_);rintro e a' w' ⟨s',cu,hq⟩;cases e with
 |normal=>exact hq lp n c eu a' w' cu
 |_=>exact⟨s',cu,hq⟩
theorem yZ {id:Nat} {x:Code} (h:ll P lim x (nF id Q) s):ll P lim (.block id x) Q s:=by
 intro lp n c eu a w hs;refine wpIn_block (wpIn_mono (h lp n c eu a w hs) ?_);rintro e a' w' ⟨s',cu,hq⟩;cases e with
 |exit pZ=>
  simp only [nF] at hq;simp only [Exit.inBlock];split at hq
  ·rw [if_pos (by assumption)];exact⟨s',cu,hq⟩
  ·rw [if_neg (by assumption)];exact⟨s',cu,hq⟩
 |_=>exact⟨s',cu,hq⟩
theorem mg {x:Operand} {p q:Code} {b:Bool} (hx:s.ev x=.sc (.bool b)) (h1:b=true→ll P lim p Q s) (h2:b=false→ll P lim q Q s):ll P lim (.cond x p q) Q s:=by
 intro lp n c eu a w hs;obtain⟨φ,R,cR⟩:=hs;have hr:=cR.ev x;rw [hx] at hr;cases b with
 |true=>exact wpIn_cond_true hr.gI (h1 rfl lp n c eu a w ⟨φ,R,cR⟩)
 |false=>exact wpIn_cond_false hr.gI (h2 rfl lp n c eu a w ⟨φ,R,cR⟩)
end
def B_ {X Y:Type} (z:X⊕Y) (MX:X→Mem) (MY:Y→Mem) (M:Mem):Exit→St→Prop
 |.normal,s=>match z with
  |.inl x=>pD M (MX x) s
  |.inr _=>False
 |.ret,s=>match z with
  |.inl _=>False
  |.inr y=>pD M (MY y) s
 |_,_=>False
def Ko {X Y:Type} (P:Program) (n:Nat) (c:Ctx) (l:Nat) (rec:Loop) (args:List AV) (M:Mem) (MX:X→Mem) (MY:Y→Mem):X⊕Y→Prop
 |.inl x=>UX P n c l rec args M (MX x)
 |.inr y=>UY P n c l rec (pF rec) args M (MY y)
theorem aiH {X Y:Type} {n l nn:Nat} {c:Ctx} {rec:Loop} {args:List AV} {t:List (Nat×AV)} {M:Mem} (z:X⊕Y) (MX:X→Mem) (MY:Y→Mem) (jH:rec.state=.ready) (yx:rec.pending=none) (BF:args.length=rec.params.size) (hM:tD M=true) (dj:rec.tmps.size=nn)
  (aiI:∀w vs φ R,ru c l rec args M w vs φ R→∀q av,lk q t=some av→Rel w R φ av (((rec.params.zip vs).foldl (fun t (p,v)=>t.setIfInBounds p v) rec.tmps).getD q undef))
  (Kp:∀lim,ll P lim rec.assign (iA (ll P lim rec.body (B_ z MX MY M)) (fun _ _=>False)) ⟨nn,t,M⟩):Ko P n c l rec args M MX MY z:=by
 have core:∀(b:Bool) (M':Mem),(∀e s,B_ z MX MY M e s→(e=if b=true then .normal else .ret)∧pD M M' s)→∀(w:World) (vs:Array Value) (φ:Ph) (R:Nat→Prop),ru c l rec args M w vs φ R→YieldAt Fence.wide n P l vs w fun e w'=>e=.returned (.bool b)∧∃φ' R',Fh (if b=true then w else w.putObj l (.loop (pF rec))) φ R M (.sc (.bool b)) M' w' (.bool b) φ' R':=by
  intro b M' tU w vs φ R hp;have hl:=hp.lp;have bB:l<w.heap.size:=(Array.getElem?_eq_some_iff.1 hl).1;have hy:=run_yield (P:=P) (args:=vs) hl (by rw [←hp.len];exact BF)
  have vj:¬cG φ M l:=fun q=>by
   obtain⟨C,t,hC⟩:=hp.mem.cells q;rw [hl] at hC;cases hC
  have hI:B7 ⟨w,cG φ M,R,φ,[]⟩ l rec:=⟨hl,hp.nR,vj,fun i hi=>⟨hp.Rb i hi,fun⟨b,k,x,h1,h2,h3⟩=>hp.mem.fA b k x h1 h2 (h3▸hi)⟩⟩
  have aiJ:∀(L:List (Nat×Value)) (t:Array Value),(L.foldl (fun t (p:Nat×Value)=>t.setIfInBounds p.1 p.2) t).size=t.size:=by
   intro L
   induction L with
   |nil=>intro t;rfl
   |cons p L ih=>intro t;rw [List.foldl_cons,ih];simp
  have yU:((rec.params.zip vs).foldl (fun t (p,v)=>t.setIfInBounds p v) rec.tmps).size=nn:=by
   rw [←Array.foldl_toList];exact(aiJ _ _).trans dj
  have jl:cz ⟨w,cG φ M,R,φ,[]⟩ φ R ⟨nn,t,M⟩ {tmps:=(rec.params.zip vs).foldl (fun t (p,v)=>t.setIfInBounds p v) rec.tmps,defers:=[]} w:=
   ⟨yU,aiI w vs φ R hp,hp.mem,hp.fZ,fun b k x hb hx=>.inr ⟨b,k,x,hb,hx,rfl⟩,fun _ h=>h,fun _ h=>.inl h,hp.Rb,Ext.refl _ _,rfl,fun b _=>.inr rfl⟩
  refine⟨_,_,_,_,hy,roundIn_of_wpIn trivial (wpIn_mono (Kp w.heap.size l n _ rfl _ w ⟨φ,R,jl⟩) ?_)⟩;rintro e a1 w1 ⟨s1,⟨fQ,R1,dc⟩,hq⟩;cases e with
  |normal=>
   obtain⟨hR1,Bk,kI⟩:=dc.pE hI {rec with state:=.busy};refine⟨_,run_beginRound Bk jH,?_⟩;refine wpIn_mono (hq l n _ UW a1 _ ⟨fQ,R1,kI⟩) ?_;rintro e a3 W3 ⟨s3,gi,hz⟩;obtain⟨rfl,vT⟩:=tU e s3 hz;obtain⟨jm,R2,h3⟩:=Ka (w:=w.putObj l (.loop {rec with state:=.busy})) hM gi vT;have he:∀{W:World} {o:Obj} {i:Nat},i≠l→(W.putObj l o).heap[i]?=W.heap[i]?:=fun hi=>World.putObj_heap_other hi
   have nN:∀{W:World} {o:Obj},(W.putObj l o).heap.size=W.heap.size:=by intro W o;simp [World.putObj]
   have nJ:(w.putObj l (.loop {rec with state:=.busy})).heap[l]?=some (.loop {rec with state:=.busy}):=World.putObj_heap_same bB
   have e1:W3.heap[l]?=some (.loop {rec with state:=.busy}):=by
    rw [h3.ext.block l (by rw [nN];exact bB) vj];exact nJ
   have U7:l<W3.heap.size:=(Array.getElem?_eq_some_iff.1 e1).1
   have U9:¬R2 l:=fun q=>by
    rcases h3.Rn l q with z|z|z
    ·exact hp.nR z
    ·rw [nN] at z;omega
    ·exact vj z
   have U_:¬cG jm M' l:=fun q=>by
    obtain⟨C,t,hC⟩:=h3.mem.cells q;rw [e1] at hC;cases hC
   have U':∀{W:World} {R:Nat→Prop} {φ:Ph} {M:Mem} {o:Obj},gq W R φ M→¬R l→¬cG φ M l→gq (W.putObj l o) R φ M:=by
    intro W R φ M o h h1 h2;refine⟨fun b k hb=>?_,h.inj,h.fA,h.gl.mono (fun i hi=>he fun e=>h1 (e▸hi)) (fun _ h=>h)⟩;obtain⟨oh,q1,q2⟩:=h.rel b k hb;exact⟨oh,q1,q2.mono (fun i hi=>he fun e=>h1 (e▸hi)) (fun x hx=>he fun e=>h2 ⟨b,k,x,hb,by rw [q1,hx],e⟩) (fun _ _ h=>h)⟩
   cases b with
   |true=>
    refine⟨_,_,run_endRound (P:=P) none e1,rfl,jm,R2,?_⟩
    have mf:({{rec with state:=.busy} with state:=.ready,pending:=none}:Loop)=rec:=by
     cases rec;simp at jH yx;subst jH;subst yx;rfl
    simp only [Option.isNone_none,if_true];rw [mf];refine⟨.sc rfl,U' h3.mem U9 U_,fun b k x hb hx=>?_,h3.eK,h3.R0,fun i hi=>?_,fun i hi=>by rw [nN];exact h3.Rb i hi,⟨h3.ext.os,h3.ext.tape,h3.ext.output,h3.ext.dr,?_,fun i hi hg=>?_⟩⟩
    ·have:=h3.fresh b k x hb hx;rwa [nN] at this
    ·have:=h3.Rn i hi;rwa [nN] at this
    ·have:=h3.ext.size;rw [nN] at this⊢;exact this
    ·by_cases e:i=l
     ·subst e;rw [World.putObj_heap_same U7];exact hl.symm
     ·rw [he e];refine(h3.ext.block i (by rw [nN];exact hi) hg).trans ?_;exact he e
   |false=>
    refine⟨_,_,run_endRound (P:=P) (some .ret) e1,rfl,jm,R2,?_⟩;have mf:({{rec with state:=.busy} with state:=.done,pending:=some .ret}:Loop)=pF rec:=rfl;simp only [Option.isNone_some,Bool.false_eq_true,if_false];rw [mf];refine⟨.sc rfl,U' h3.mem U9 U_,fun b k x hb hx=>?_,h3.eK,h3.R0,fun i hi=>?_,fun i hi=>by rw [nN];exact h3.Rb i hi,⟨h3.ext.os,h3.ext.tape,h3.ext.output,h3.ext.dr,?_,fun i hi hg=>?_⟩⟩
    ·have:=h3.fresh b k x hb hx;rwa [nN] at this⊢
    ·have:=h3.Rn i hi;rwa [nN] at this⊢
    ·have:=h3.ext.size;rw [nN] at this⊢;rw [nN];exact this
    ·by_cases e:i=l
     ·subst e;rw [World.putObj_heap_same U7,World.putObj_heap_same bB]
     ·rw [he e,he e];rw [nN] at hi;refine(h3.ext.block i (by rw [nN];exact hi) hg).trans ?_;exact he e
  |_=>exact hq.elim
 cases z with
 |inl x=>
  exact fun w vs φ R hp=>by
   have:=core true (MX x) (fun e s h=>by cases e<;>first|exact⟨rfl,h⟩|exact h.elim) w vs φ R hp
   simpa using this
 |inr y=>
  exact fun w vs φ R hp=>by
   have:=core false (MY y) (fun e s h=>by cases e<;>first|exact⟨rfl,h⟩|exact h.elim) w vs φ R hp
   simpa using this
section
variable{n l:Nat} {c:Ctx} {Q:Exit→St→Prop} {Z:Loop→Exit→St→Prop}
theorem B' {X Y:Type} {body:Code} {nn:Nat} {t:List (Nat×AV)} {m:Mem} (K KB:List Nat) (mt:X→List (Nat×AV)) (mm:X→Mem) (step:X→Option (X⊕Y)) (x0:X) (sa:cC) {kt:List (Nat×AV)} {km:Mem} {y:Y} (hy:bb step x0=some y)
  (h0:Fits K KB kt km sa ⟨nn,t,m⟩ (mt x0) (mm x0))
  (hb:∀(x:X) (R:X→Prop) (z:X⊕Y),step x=some z→FJ y R z→oN P n c l body (iA (fun s'=>s'.n=nn∧∃x' ρ,Fits K KB kt km ρ s' (mt x') (mm x')∧R x') Q) (fun d=>iA (fun _=>False) (Z d)) ⟨nn,mt x++kt,mm x++km⟩):oN P n c l (.loop body) Q Z ⟨nn,t,m⟩:=by
 obtain⟨N,hN⟩:=FI hy
 have wk:∀{s':St} {ρ:cC} {x:X},s'.n=nn→Fits K KB kt km ρ s' (mt x) (mm x)→tA ρ s' ⟨nn,mt x++kt,mm x++km⟩:=by
  intro s' ρ x hn hf;obtain⟨n',t',m'⟩:=s';exact⟨hn,hf.FA,BB hf.t (vH hf.k hf.FB),BC hf.m (vI hf.kb hf.FC)⟩
 refine aik (X:={p:Nat×X//kj step p.1 p.2=some y}) (fun p=>⟨nn,mt p.1.2++kt,mm p.1.2++km⟩) (fun p=>p.1.1) ⟨(N,x0),hN⟩ ⟨sa,wk rfl h0⟩ ?_;rintro⟨⟨k,x⟩,hp⟩;cases k with
 |zero=>cases hp
 |succ k=>
  have:∃z,step x=some z∧FJ y (fun x'=>kj step k x'=some y) z:=by
   simp only [kj] at hp;cases hs:step x with
   |none=>rw [hs] at hp;cases hp
   |some z=>
    rw [hs] at hp;cases z with
    |inl x'=>exact⟨_,rfl,hp⟩
    |inr y'=>cases hp;exact⟨_,rfl,rfl⟩
  obtain⟨z,hz,hc⟩:=this;have:=hb x (fun x'=>kj step k x'=some y) z hz hc;intro a w hs;refine wpIn_mono (this a w hs) ?_;rintro e a' w' (⟨s',cu,hq⟩|h)
  ·refine .inl ⟨s',cu,?_⟩;cases e with
   |normal=>
    obtain⟨hn,x',ρ,hf,hr⟩:=hq;exact⟨⟨(k,x'),hr⟩,ρ,wk hn hf,Nat.lt_succ_self _⟩
   |_=>exact hq
  ·exact .inr h
theorem Ca {X Y:Type} {s:St} {rec:Loop} {ops:Array Oper} {F:St→Prop} {W:Loop→St→Prop} {k:Nat} {o:Oper} {fo:Operand} {xs:Array Operand} {ga:Array TypeId} {args:List AV} {M:Mem} {MX:X→Mem} {MY:Y→Mem} (z:X⊕Y) (ρ σ:cC) (WX:X→Mem) (WY:Y→Mem) (hY:Ko P (n -1) c l rec args M MX MY z)
  (hk:ops[k]?=some o) (ho:o.op=pw fo xs ga) (F9:dV ops s o=some true) (mI:s.ev fo=.sc (.func (.yield l) #[] #[])) (fq:gb [] ρ (xs.toList.map s.ev) args) (hi:iC ρ=true) (tF:(ρ.all fun p=>(lk p.1 M).isSome)=true) (hM:et ρ s.m M) (nG:iC σ=true)
  (aiK:∀x,(σ.all fun p=>(lk p.1 (WX x)).isSome)=true) (aiL:∀y,(σ.all fun p=>(lk p.1 (WY y)).isSome)=true) (hWX:∀x,et σ (MX x) (WX x)) (hWY:∀y,et σ (MY y) (WY y)) (hbX:∀x,vB ρ M σ (WX x)=true) (hbY:∀y,vB ρ M σ (WY y)=true) (hnX:∀x,mJ s (kG ρ (WX x))=true) (hnY:∀y,mJ s (kG ρ (WY y))=true)
  (hI:B7 c l rec) (F_:(M.all fun p=>Nat.ble 1000 p.1&&(Nat.ble 1100 p.1||match lk p.1 ρ with|some (some q)=>Nat.beq q p.1|_=>false))=true)
  (h1:∀x,z=.inl x→tS P n c l ops F W (k+1) (s.app o.dst ⟨.sc (.bool true),WX x++lF (dQ ρ),dQ ρ,kG ρ (WX x)⟩))
  (h2:∀y,z=.inr y→Go P ops false (W (pF rec)) (ops.toList.drop (k+1)) (s.app o.dst ⟨.sc (.bool false),WY y++lF (dQ ρ),dQ ρ,kG ρ (WY y)⟩) []):tS P n c l ops F W k s:=by
 cases z with
 |inl x=>exact UZ (L:=[]) (b:=true) (d:=pF rec) ho F9 hk mI trivial fq hi tF hM nG (aiK x) (hWX x) (hbX x) (fun h=>absurd rfl h) (hnX x) hI F_ (by rw [if_pos rfl];exact hY) (by rw [if_pos rfl];simpa using h1 x rfl)
 |inr y=>exact UZ (L:=[]) (b:=false) (d:=pF rec) ho F9 hk mI trivial fq hi tF hM nG (aiL y) (hWY y) (hbY y) (fun h=>absurd rfl h) (hnY y) hI F_ (by rw [if_neg (by simp)];exact hY) (by rw [if_neg (by simp)];exact⟨[],by simpa using h2 y rfl⟩)
end
end Go.Ab
namespace Go.Ab
open Go.RowKit
variable{P:Program}
theorem aiS {fn:Func} {r:AV} {n:Nat} {t:List (Nat×AV)} {M:Mem} {c:Ctx} {a:Act} {W:World} {φ:Ph} {R:Nat→Prop} {D:Nat} (hq:BL P fn r ⟨n,t,M⟩)
  (hn:a.tmps.size=n) (ht:∀q av,lk q t=some av→Rel W R φ av (a.tmps.getD q undef)) (hm:gq W R φ M) (ma:∀b x,φ b=some x→∃y,lk b M=some y) (eJ:∀m,R m→m<W.heap.size)
  (hD:W.heap[D]?=some (.deferred (some []))) (qc:¬R D) (vU:∀n,c.R0 n→R n) (vV:∀n,R n→c.R0 n∨c.w0.heap.size≤n∨c.G n) (ig:∀n,cG φ M n→c.w0.heap.size≤n∨c.G n) (ry:Ext c.w0 W c.G) (yV:c.w0.heap.size≤D):
  ZM P fn r c {a with defers:=[{target:=.collected D,args:=#[]}]} W:=by
 have jl:cz ⟨W,cG φ M,R,φ,[{target:=.collected D,args:=#[]}]⟩ φ R ⟨n,t,M⟩ {a with defers:=[{target:=.collected D,args:=#[]}]} W:=⟨hn,ht,hm,ma,fun b k x hb hx=>.inr ⟨b,k,x,hb,hx,rfl⟩,fun _ h=>h,fun _ h=>.inl h,eJ,Ext.refl _ _,rfl,fun b _=>.inr rfl⟩;have cu:dh ⟨W,cG φ M,R,φ,[{target:=.collected D,args:=#[]}]⟩ ⟨n,t,M⟩ {a with defers:=[{target:=.collected D,args:=#[]}]} W:=⟨φ,R,jl⟩;rcases hq with hq|⟨h,hw,hq⟩
 ·exact Ge jl hq jl.d hm hD qc vU vV ig ry yV
 ·obtain⟨mQ,R3,gi⟩:=cu.freeze hw;exact Ge gi hq gi.d hm hD qc vU vV ig ry yV
theorem oO {X Y:Type} {x:X} {MX:X→Mem} {MY:Y→Mem} {M:Mem} {s:St} (h:pD M (MX x) s):B_ (.inl x) MX MY M .normal s:=h
theorem tV {X Y:Type} {y:Y} {MX:X→Mem} {MY:Y→Mem} {M:Mem} {s:St} (h:pD M (MY y) s):B_ (.inr y) MX MY M .ret s:=h
theorem vW {F:St→Prop} {s:St} (h:F s):Kb F .ret s:=h
theorem aiT {m:Mem} {ρ:cC} {b ty sz:Nat} {e:AV} {ys:List AV} (h:lk b m=some (some ⟨ty,sz,[e]⟩)) (hy:ys=e.cells) (hn:(ys.all eE)=true):bE m ρ (.ref b 0 0) (.vp ys):=by
 simp only [bE,Fb,h];exact⟨trivial,trivial,e,rfl,hy,fun j y hj=>List.all_eq_true.1 hn y (List.mem_of_getElem? hj)⟩
def alive (ρ:cC) (M:Mem):Bool:=ρ.all fun p=>match lk p.1 M with
 |some (some _)=>true
 |_=>false
def Kq (lq ρ:cC):Bool:=lq.all fun p=>Nat.blt p.1 1100&&(match lk p.1 ρ,p.2 with
 |some (some q),some q'=>Nat.beq q q'
 |_,_=>false)
theorem Kr {ρ:cC} {M:Mem} (h:alive ρ M=true) {b:Nat} {x:Option Nat} (hb:lk b ρ=some x):∃k,lk b M=some (some k):=by
 have:=List.all_eq_true.1 h _ (fR hb);simp only at this;split at this
 ·rename_i k hk;exact⟨k,hk⟩
 ·cases this
theorem aiU {lq ρ:cC} (h:Kq lq ρ=true) {b:Nat} {x:Option Nat} (hb:lk b lq=some x):b<1100∧∃q,x=some q∧lk b ρ=some (some q):=by
 have:=List.all_eq_true.1 h _ (fR hb);simp only [Bool.and_eq_true] at this;obtain⟨h1,h2⟩:=this;refine⟨by simpa using h1,?_⟩;cases hl:lk b ρ with
 |none=>simp [hl] at h2
 |some o=>
  cases o with
  |none=>simp [hl] at h2
  |some q=>
   cases x with
   |none=>simp [hl] at h2
   |some q'=>
    simp only [hl] at h2;have:=Nat.eq_of_beq_eq_true h2;subst this;exact⟨q,rfl,rfl⟩
theorem aiV {lq ρ:cC} {φ φ':Ph} (h:Kq lq ρ=true) (hh:∀b q,b<1100→lk b lq=some (some q)→φ' b=φ.via ρ b):∀b x,φ.via lq b=some x→φ' b=some x:=by
 intro b x hb;unfold Ph.via at hb;cases hq:lk b lq with
 |none=>rw [hq] at hb;cases hb
 |some y=>
  obtain⟨h1,q,rfl,h2⟩:=aiU h hq;rw [hq] at hb;rw [hh b q h1 hq];simp only [Ph.via,h2];exact hb
theorem Cb {X Y:Type} {lim:Nat} {Q:Exit→St→Prop} {fn Gg:Func} {r:AV} {n nn gf p1 p2 bid:Nat} {t t0:List (Nat×AV)} {m M:Mem} {g:Operand} {assign body rest Va:Code} {sB caps':List AV} (ts:Nat→List (Nat×AV)) (ρ lq:cC) (z:X⊕Y) (MX:X→Mem) (MY:Y→Mem)
  (hg:(⟨n,t,m⟩:St).ev g=.cE gf [] sB) (hf:P.funcs[gf]?=some Gg) (hb:Gg.body=some Va) (vX:Gg.ntmps=nn) (sk:Gg.results=#[]) (eg:∀args w,(callFunc gf args).run P w=.ok (.enter gf args) w) (hlen:Nat.ble (caps'.length+1) nn=true)
  (hM:tD M=true) (hi:iC ρ=true) (hk:(ρ.all fun p=>(lk p.1 M).isSome)=true) (hw:et ρ m M) (Vb:gb [] ρ sB caps') (Ks:pj lq ⟨n,t,m⟩ t0) (aiX:Kq lq ρ=true) (oD:alive lq M=true) (bw:∀x,alive lq (MX x)=true) (hy1:∀y,alive lq (MY y)=true)
  (fu:∀l,p8 0 (.sc (.func (.yield l) #[] #[])::caps')=some (ts l))
  (FM:∀(c:Ctx) (l k:Nat) (rec:Loop),B7 c l rec→rec.state=.ready→rec.pending=none→rec.params=#[p1,p2]→rec.assign=assign→rec.body=body→rec.tmps.size=n→
   (∀(args:List AV) (Mx:Mem),alive lq Mx=true→∀w vs φ R,ru c l rec args Mx w vs φ R→∀q av,lk q t0=some av→Rel w R φ av (rec.tmps.getD q undef))→
   oN P k c l Va (oc fun s=>∃M',(∃x,z=.inl x∧M'=MX x)∧pD M M' s) (fun d=>oc fun s=>∃M',(d=pF rec∧∃y,z=.inr y∧M'=MY y)∧pD M M' s) ⟨nn,ts l,M⟩)
  (Kc:∀x,z=.inl x→∀lim,dO P lim rest (Kb (BL P fn r)) ⟨n,t0,MX x⟩)
  (Kd:∀y,z=.inr y→BL P fn r ⟨n,t0,MY y⟩):
  UT P (ZM P fn r) lim (.block bid (.rangeFunc g #[p1,p2] assign body)) rest Q ⟨n,t,m⟩:=by
 intro c eu rn a w ⟨y0,Rs,hs⟩;have rg:=hs.ev g;rw [hg] at rg;obtain⟨m1,m2,m3⟩:=oC hs.m hi hk hw;generalize hgv:a.eval g=vg at rg;cases rg with
 |@cE _ _ _ _ fv cv Bw vE EX vh=>
  have e1:fv=#[]:=by apply Array.eq_empty_of_size_eq_zero;simpa using Bw.symm
  subst e1
  have ig:∀j,cG (y0.via ρ) M j→c.w0.heap.size≤j∨c.G j:=by
   rintro j ⟨b,k',h',e5,e6,rfl⟩;obtain⟨b0,k0,g1,g2,g3⟩:=m3 b k' h' e5 e6;exact hs.fresh b0 k0 h' g2 g3
  have slot:∀{W:World} {φ':Ph} {R':Nat→Prop},(∀j,Rs j→W.heap[j]?=w.heap[j]?)→(∀j,Rs j→R' j)→(∀b q,b<1100→lk b lq=some (some q)→φ' b=y0.via ρ b)→∀q av,lk q t0=some av→Rel W R' φ' av (a.tmps.getD q undef):=by
   intro W φ' R' h1 h2 h3 q av hq;have:=mE hs.m (m:=[]) (fun _ h=>h) (fun b k h hb=>by simp [lk] at hb) (hs.get q) (Ff Ks q av (fR hq));exact this.mono h1 h2 (aiV aiX h3)
  have Kt:∀{W:World} {φ':Ph} {R':Nat→Prop} {M':Mem},gh w (y0.via ρ) Rs M M' W φ' R'→∀j,Rs j→W.heap[j]?=w.heap[j]?:=by
   intro W φ' R' M' hp j hj;refine hp.ext.block j (hs.Rb j hj) ?_;rintro⟨b,k',h',e5,e6,rfl⟩;exact m1.fA b k' h' e5 e6 hj
  have Vc:∀{W:World} {φ':Ph} {R':Nat→Prop} {M':Mem},alive lq M'=true→gh w (y0.via ρ) Rs M M' W φ' R'→∀q av,lk q t0=some av→Rel W R' φ' av (a.tmps.getD q undef):=by
   intro W φ' R' M' ai0 hp;refine slot (Kt hp) hp.R0 (fun b q _ hq=>?_);obtain⟨k1,q8⟩:=Kr oD hq;obtain⟨k2,hU⟩:=Kr ai0 hq;exact hp.eK b k1 k2 q8 hU
  refine wp_block (wpIn_wide (n:=0)|>.1 ?_);refine ait (FX:=fun M'=>∃x,z=.inl x∧M'=MX x) (FZ:=fun M'=>∃y,z=.inr y∧M'=MY y) hgv eg m1 m2 hs.Rb ?_ ?_ ?_ (fun M' _ b k k' h1 _=>⟨k,h1⟩)
  ·intro W1 rec apV mf hl pG lC
   have fq:∀(i:Nat) (c:AV) (v:Value),(AV.sc (.func (.yield (w.heap.size+1)) #[] #[])::caps')[i]?=some c→(#[Value.func (.yield (w.heap.size+1)) #[] #[]]++cv)[i]?=some v→Rel W1 Rs (y0.via ρ) c v:=by
    intro i av v h1 h2;obtain⟨g1,g2⟩:=l_ Vb;cases i with
    |zero=>
     simp at h1
     have vK:v=.func (.yield (w.heap.size+1)) #[] #[]:=by
      rw [Array.getElem?_append_left (by simp)] at h2;simpa using h2.symm
     subst h1;subst vK;exact .sc rfl
    |succ i=>
     have om:caps'[i]?=some av:=by simpa using h1
     have vK:cv[i]?=some v:=by
      rw [Array.getElem?_append_right (by simp)] at h2;simpa using h2
     have bB:=(List.getElem?_eq_some_iff.1 om).1;have hx:sB[i]?=some (sB[i]'(by omega)):=List.getElem?_eq_getElem (by omega)
     have:=mE hs.m (m:=[]) (fun _ h=>h) (fun b k h hb=>by simp [lk] at hb) (vh i _ v hx vK) (g2 i _ av hx om);exact this.mono (Kt pG) (fun _ h=>h) (fun _ _ h=>h)
   have ai1:(AV.sc (.func (.yield (w.heap.size+1)) #[] #[])::caps').length=(#[Value.func (.yield (w.heap.size+1)) #[] #[]]++cv).size:=by
    have:=(l_ Vb).1;simp;omega
   have vj:¬cG (y0.via ρ) M (w.heap.size+1):=fun q=>by
    obtain⟨C,t,hC⟩:=pG.mem.cells q;rw [hl] at hC;cases hC
   refine CallsIn.mono (ais (P:=P) (n:=0 -1) (l:=w.heap.size+1) (rec:=rec) (FX:=fun M'=>∃x,z=.inl x∧M'=MX x) (FZ:=fun d M'=>d=pF rec∧∃y,z=.inr y∧M'=MY y) hf hb vX (by simpa using hlen) hM (fu _) sk ai1 fq pG.mem m2 pG.Rb ?_) ?_
   ·refine FM _ _ _ rec ⟨hl,lC,vj,fun j hj=>⟨pG.Rb j hj,fun⟨b,k,x,h1,h2,h3⟩=>m1.fA b k x h1 h2 (h3▸hj)⟩⟩ (by rw [mf]) (by rw [mf]) (by rw [mf]) (by rw [mf]) (by rw [mf]) (by rw [mf];exact hs.n) ?_;intro args Mx ai2 W' vs φ R hp;rw [show rec.tmps=a.tmps by rw [mf]]
    refine slot (fun j hj=>(hp.same j hj).trans (Kt pG j hj)) hp.R0 (fun b q rh hq=>?_);obtain⟨k2,hU⟩:=Kr ai2 hq;exact hp.home b k2 rh hU
   ·rintro e W2 ⟨h1,⟨M',φ',R',hF,hp⟩|⟨d,M',φ',R',⟨rfl,hF⟩,hp⟩⟩
    ·exact⟨h1,.inl ⟨M',φ',R',hF,hp⟩⟩
    ·exact⟨h1,.inr ⟨M',φ',R',hF,hp⟩⟩
  ·rintro D W M' φ' R' ⟨x,hz,rfl⟩ hp Ku qc hD;show rest.wp P _ _ W
   rw [hs.d,rn];refine aix (Kc x hz _) (a:=a) (φ:=φ') (R:=R') hs.n (Vc (bw x) hp) hp.mem hp.fZ hp.Rb hD qc (fun j hj=>hp.R0 j (hs.R0 j hj)) (fun j hj=>?_) (fun j hj=>?_) (hs.ext.trans hp.ext fun i hi hg=>?_) (Nat.le_trans hs.ext.size Ku)
   ·rcases hp.Rn j hj with q|q|q
    ·exact hs.Rn j q
    ·exact .inr (.inl (Nat.le_trans hs.ext.size q))
    ·exact .inr (ig j q)
   ·obtain⟨b,k',h',e5,e6,rfl⟩:=hj;rcases hp.fresh b k' h' e5 e6 with q|q
    ·exact .inl (Nat.le_trans hs.ext.size q)
    ·exact ig _ q
   ·rcases ig i hg with q|q
    ·exact absurd q (Nat.not_le.2 hi)
    ·exact q
  ·rintro D W M' φ' R' ⟨y,hz,rfl⟩ hp Ku qc hD;refine .inr ⟨rfl,?_⟩;rw [hs.d,rn];refine aiS (Kd y hz) (a:=a) (φ:=φ') (R:=R') hs.n (Vc (hy1 y) hp) hp.mem hp.fZ hp.Rb hD qc (fun j hj=>hp.R0 j (hs.R0 j hj)) (fun j hj=>?_) (fun j hj=>?_) (hs.ext.trans hp.ext fun i hi hg=>?_) (Nat.le_trans hs.ext.size Ku)
   ·rcases hp.Rn j hj with q|q|q
    ·exact hs.Rn j q
    ·exact .inr (.inl (Nat.le_trans hs.ext.size q))
    ·exact .inr (ig j q)
   ·obtain⟨b,k',h',e5,e6,rfl⟩:=hj;rcases hp.fresh b k' h' e5 e6 with q|q
    ·exact .inl (Nat.le_trans hs.ext.size q)
    ·exact ig _ q
   ·rcases ig i hg with q|q
    ·exact absurd q (Nat.not_le.2 hi)
    ·exact q
theorem ai3 {c:Ctx} {l n:Nat} {rec:Loop} {p1 p2:Nat} {a1 a2:AV} {t0:List (Nat×AV)} {Mx:Mem} (hp:rec.params=#[p1,p2]) (hn:rec.tmps.size=n) (h1:Nat.blt p1 n=true) (h2:Nat.blt p2 n=true) (Bv:Nat.beq p1 p2=false) (Vd:(t0.all fun q=>!Nat.beq q.1 p1&&!Nat.beq q.1 p2)=true)
  (hs:∀w vs φ R,ru c l rec [a1,a2] Mx w vs φ R→∀q av,lk q t0=some av→Rel w R φ av (rec.tmps.getD q undef)):
  ∀w vs φ R,ru c l rec [a1,a2] Mx w vs φ R→∀q av,lk q ((p1,a1)::(p2,a2)::t0)=some av→Rel w R φ av (((rec.params.zip vs).foldl (fun t (p,v)=>t.setIfInBounds p v) rec.tmps).getD q undef):=by
 intro w vs φ R hy q av hq;have hlen:=hy.len
 obtain⟨v1,v2,rfl⟩:∃v1 v2,vs=#[v1,v2]:=by
  have h2:vs.size=2:=by simpa using hlen.symm
  refine⟨vs[0],vs[1],?_⟩;apply Array.ext
  ·simpa using h2
  ·intro i hi nD;have:i=0∨i=1:=by simp at nD;omega
   rcases this with rfl|rfl<;>rfl
 have k1:p1<n:=by simpa using h1
 have k2:p2<n:=by simpa using h2
 have k12:p1≠p2:=by intro e;subst e;simp at Bv
 rw [hp];have hz:(#[p1,p2].zip #[v1,v2]).foldl (fun t (x:Tmp×Value)=>t.setIfInBounds x.1 x.2) rec.tmps=(rec.tmps.setIfInBounds p1 v1).setIfInBounds p2 v2:=by simp
 show Rel w R φ av (((#[p1,p2].zip #[v1,v2]).foldl (fun t (x:Tmp×Value)=>t.setIfInBounds x.1 x.2) rec.tmps).getD q undef)
 rw [hz];rw [dP] at hq;by_cases e1:q=p1
 ·rw [if_pos e1] at hq;cases hq
  have:((rec.tmps.setIfInBounds p1 v1).setIfInBounds p2 v2).getD q undef=v1:=by
   subst e1;simp [Array.getD_eq_getD_getElem?,Ne.symm k12,hn,k1]
  rw [this];exact hy.rel 0 _ v1 rfl rfl
 ·rw [if_neg e1,dP] at hq;by_cases e2:q=p2
  ·rw [if_pos e2] at hq;cases hq
   have:((rec.tmps.setIfInBounds p1 v1).setIfInBounds p2 v2).getD q undef=v2:=by
    subst e2;simp [Array.getD_eq_getD_getElem?,hn,k2]
   rw [this];exact hy.rel 1 _ v2 rfl rfl
  ·rw [if_neg e2] at hq
   have:((rec.tmps.setIfInBounds p1 v1).setIfInBounds p2 v2).getD q undef=rec.tmps.getD q undef:=by
    simp [Array.getD_eq_getD_getElem?,Ne.symm e1,Ne.symm e2]
   rw [this];exact hs w _ φ R hy q av hq
theorem Cc {X Y:Type} {n l nn p1 p2:Nat} {c:Ctx} {rec:Loop} {a1 a2:AV} {t0:List (Nat×AV)} {M:Mem} {assign body:Code} (z:X⊕Y) (MX:X→Mem) (MY:Y→Mem) (jH:rec.state=.ready) (yx:rec.pending=none) (hp:rec.params=#[p1,p2]) (has:rec.assign=assign) (hbo:rec.body=body) (hM:tD M=true) (dj:rec.tmps.size=nn) (h1:Nat.blt p1 nn=true) (h2:Nat.blt p2 nn=true) (Bv:Nat.beq p1 p2=false) (Vd:(t0.all fun q=>!Nat.beq q.1 p1&&!Nat.beq q.1 p2)=true)
  (hs:∀w vs φ R,ru c l rec [a1,a2] M w vs φ R→∀q av,lk q t0=some av→Rel w R φ av (rec.tmps.getD q undef))
  (Kp:∀lim,ll P lim assign (iA (ll P lim body (B_ z MX MY M)) (fun _ _=>False)) ⟨nn,(p1,a1)::(p2,a2)::t0,M⟩):Ko P n c l rec [a1,a2] M MX MY z:=
 aiH z MX MY jH yx (by rw [hp];rfl) hM dj (ai3 hp dj h1 h2 Bv Vd hs) (by rw [has,hbo];exact Kp)
end Go.Ab
namespace Go.Ab
open Go.RowKit
section
variable{P:Program} {o:Oper} {s:St}
theorem ai6 {t e b off len:Nat} {x:Operand} {D E:ae} {k:eI} (ho:o.op=l0 .clear #[x] #[t]) (h:az P t=some D) (hk:D.k=.slice e) (hE:az P e=some E) (hx:s.ev x=.arr b off len) (hb:lk b s.m=some (some k)) (Iy:k.bW=E.size) (hl:off+len≤k.xs.length) (apW:0<len)
  (hc:E.zero.cells.all AV.k_=true):cM P o s ⟨.bR [],[(b,some ⟨k.ty,k.bW,k.xs.take off++List.replicate len E.zero++k.xs.drop (off+len)⟩)],[b],[]⟩:=by
 intro s' _ bS fE _;refine tl fun c φ R a w hs=>?_
 have gH:lk b s'.m=some (some k):=by rw [fE b (by simp)];exact hb
 have h1:=hs.ev x;rw [bS x (rZ ho x (by simp)),hx] at h1;obtain⟨i,z,u,hi,jk,_,dj,Bg,hzero,iR,_⟩:=la hE;have Cd:=xV w R φ z;generalize hq:a.eval x=q at h1;cases h1 with
 |kg=>omega
 |@arr _ _ _ _ cap hm fO lE tu=>
  obtain⟨oh,fF,hr⟩:=hs.m.rel b k gH;rw [fO] at fF;cases fF;have hr0:=hr;obtain⟨r1,r2,r3,r4,C,r5,r6,r7⟩:=hr;have jj:hm.bW=E.size:=by rw [←r1,Iy]
  obtain⟨news,Gh⟩:∃news,news=(Builtin.zeroCells z.cells len).toList:=⟨_,rfl⟩
  have oy:news.length=len*hm.bW:=by rw [Gh,jj];simp [Builtin.zeroCells,iR]
  have mD:∀i j,i<len→j<hm.bW→news[i*hm.bW+j]?=z.cells[j]?:=by
   intro i j h1 h2;rw [Gh,Array.getElem?_toList,jj];have:=Ip z.cells len E.size iR i j h1 (by omega);unfold Builtin.zeroCells;rw [iR] at this⊢;exact this
  have It:∀v∈news,v.oneCell'=true:=by
   intro v hv;obtain⟨q,hq,rfl⟩:=List.mem_iff_getElem.1 hv;have e1:q=(q/hm.bW)*hm.bW+q%hm.bW:=by rw [Nat.mul_comm];exact(Nat.div_add_mod q hm.bW).symm
   have hj:=Nat.mod_lt q r2;have nD:q/hm.bW<len:=by rw [Nat.div_lt_iff_lt_mul r2];omega
   have e2:=mD (q/hm.bW) (q%hm.bW) nD hj;rw [←e1,List.getElem?_eq_getElem hq] at e2;have eR:q%hm.bW<(pe z).cells.length:=by rw [Cd.1,iR];omega
   have:=Cd.2 (q%hm.bW) _ news[q] (List.getElem?_eq_getElem eR) e2.symm;rw [hzero] at hc;exact this.H' (List.all_eq_true.1 hc _ (List.getElem_mem _))
  have lD:off*hm.bW+news.length≤C.toList.length:=by
   have ES:C.toList.length=C.size:=by simp
   rw [ES,r6,oy];have:=Nat.mul_le_mul_right hm.bW (show off+len≤hm.cap by omega)
   rw [Nat.add_mul] at this;omega
  have fG:(Builtin.clear_ #[t] o.type #[.slice (some ⟨hm.cA,off*hm.bW,none⟩) len cap]).run P w=.ok (.tuple #[]) (w.setRow hm.cA (C.toList.take (off*hm.bW)++news++C.toList.drop (off*hm.bW+news.length)).toArray):=by
   have jH:=run_storeCells_at (P:=P) hm.cA (off*hm.bW) k.ty news 0 C w r5 (by simpa using lD) It;rw [Nat.add_zero,Gh] at jH;obtain⟨m,rfl⟩:∃m,len=m+1:=⟨len -1,by omega⟩
   simp [Builtin.clear_,run_underlying (pg h hk),zeroValue,typeInfo,hi,jk,jH,Gh]
  have lC:=hs.m.fA b k hm gH fO;have r9:∀q,R q→(w.setRow hm.cA (C.toList.take (off*hm.bW)++news++C.toList.drop (off*hm.bW+news.length)).toArray).heap[q]?=w.heap[q]?:=fun q hq=>setRow_other w hm.cA q _ (fun e=>lC (e▸hq))
  have ai7:∀i,(k.xs.take off++List.replicate len E.zero++k.xs.drop (off+len))[i]?=if off≤i∧i<off+len then some E.zero else k.xs[i]?:=fun i=>by
   have:=aa0 k.xs (List.replicate len E.zero) off len i hl (by simp);rw [List.take_of_length_le (l:=List.replicate len E.zero) (by simp)] at this;rw [this];split
   ·rw [List.getElem?_replicate,if_pos (by omega)]
   ·rfl
  have oz:=hs.write (b:=b) (k:=k) (k':=⟨k.ty,k.bW,k.xs.take off++List.replicate len E.zero++k.xs.drop (off+len)⟩) (x:=hm) gH fO (C.toList.take (off*hm.bW)++news++C.toList.drop (off*hm.bW+news.length)).toArray
   ⟨r1,r2,by simp;omega,r4,_,setRow_heap w hm.cA C _ k.ty _ r5,by rw [Ig _ _ _ lD,←r6];simp,fun i x hx=>by
    dsimp only at hx;rw [ai7] at hx;by_cases hi:off≤i∧i<off+len
    ·rw [if_pos hi] at hx;cases hx;rw [hzero];refine⟨by rw [Cd.1,iR,jj],fun j c' hj=>?_⟩;have eR:j<hm.bW:=by rw [jj,←iR,←Cd.1];exact(List.getElem?_eq_some_iff.1 hj).1
     have Kv:j<z.cells.size:=by omega
     refine⟨z.cells[j]'Kv,?_,(Cd.2 j c' _ hj (Array.getElem?_eq_getElem Kv)).mono r9 (fun _ h=>h) (fun _ _ h=>h)⟩
     rw [xX _ _ _ lD];have e1:off*hm.bW≤i*hm.bW+j:=by have:=Nat.mul_le_mul_right hm.bW hi.1;omega
     have e2:i*hm.bW+j -off*hm.bW=(i -off)*hm.bW+j:=by rw [Nat.sub_mul];have:=Nat.mul_le_mul_right hm.bW hi.1;omega
     have e3:(i -off)*hm.bW+j<len*hm.bW:=tn (by omega) eR;rw [if_pos ⟨e1,by rw [oy];omega⟩,e2,mD _ _ (by omega) eR];exact Array.getElem?_eq_getElem Kv
    ·rw [if_neg hi] at hx;obtain⟨q1,q2⟩:=r7 i x hx;refine⟨q1,fun j c' hj=>?_⟩;obtain⟨u,hu,gL⟩:=q2 j c' hj;have eR:j<hm.bW:=by rw [←q1];exact(List.getElem?_eq_some_iff.1 hj).1
     refine⟨u,?_,gL.mono r9 (fun _ h=>h) (fun _ _ h=>h)⟩;rw [xX _ _ _ lD,if_neg]
     ·rw [Array.getElem?_toList];exact hu
     ·rintro⟨g1,g2⟩;rw [oy] at g2;rcases Nat.lt_or_ge i off with g|g
      ·have:=tn g eR;omega
      ·have:=Nat.mul_le_mul_right hm.bW (show off+len≤i by omega)
       rw [Nat.add_mul] at this;omega⟩
  refine⟨.tuple #[],_,φ,R,?_,cz.app (s:=s') (m:=(b,some ⟨k.ty,k.bW,k.xs.take off++List.replicate len E.zero++k.xs.drop (off+len)⟩)::s'.m) oz o.dst (.bR rfl (by simp))⟩;simp [vi ho,builtin,hq,fG]
variable{tt:TT} {ops:Array Oper} {draw:Bool} {Q:St→Prop} {acc:List (Option dN)} {l:List Oper} {n:Nat} {t:List (Nat×AV)} {m:Mem}
def oP {α:Type} (z:α) (xs:List α) (off len:Nat):List α:=xs.take off++List.replicate len z++xs.drop (off+len)
theorem Ve {α:Type} {z:α} {xs zs:List α} {off len:Nat} (h:oP z xs off len=zs) (hc:(Nat.ble (off+len) xs.length&&Nat.blt 0 len)=true):zs.length=xs.length:=by
 subst h;simp only [Bool.and_eq_true] at hc;have:=Nat.le_of_ble_eq_true hc.1;unfold oP;simp;omega
theorem Vf {α:Type} {o:Oper} {ty e b off len bt bz:Nat} {t':List (Nat×AV)} {m':Mem} {x:Operand} {D E:ae} (enc:α→AV) (z:α) (xs zs:List α) (iR:oP z xs off len=zs) (hc:(Nat.ble (off+len) xs.length&&Nat.blt 0 len)=true) (ht:ff P tt) (hg:dV ops ⟨n,t,m⟩ o=some true) (ho:o.op=l0 .clear #[x] #[ty]) (hD:lk ty tt=some D) (hk:D.k=.slice e) (hE:lk e tt=some E) (hzE:E.zero=enc z)
  (hx:(⟨n,t,m⟩:St).ev x=.arr b off len) (hb:lk b m=some (some ⟨bt,bz,xs.map enc⟩)) (hbz:Nat.beq bz E.size=true) (hcz:E.zero.cells.all AV.k_=true) (hp:fB n t o.dst (.bR [])=some t') (hm:mc [(b,some ⟨bt,bz,zs.map enc⟩)] m=some m')
  (h:Go P ops draw Q l ⟨n,t',m'⟩ (some ⟨.bR [],[(b,some ⟨bt,bz,zs.map enc⟩)],[b],[]⟩::acc)):Go P ops draw Q (o::l) ⟨n,t,m⟩ acc:=by
 subst iR;simp only [Bool.and_eq_true] at hc;have h1:=Nat.le_of_ble_eq_true hc.1;have h2:0<len:=by simpa using hc.2
 have hA:=ai6 (P:=P) (s:=⟨n,t,m⟩) ho (ht _ _ hD) hk (ht _ _ hE) hx hb (Nat.eq_of_beq_eq_true hbz) (by simpa using h1) h2 hcz;rw [hzE] at hA
 have e:(xs.map enc).take off++List.replicate len (enc z)++(xs.map enc).drop (off+len)=(oP z xs off len).map enc:=by
  unfold oP;simp [List.map_take,List.map_drop]
 dsimp only at hA;rw [e] at hA;exact eL hg hA rfl hp hm h
theorem y6 {α:Type} {o:Oper} {ty el b bt bz:Nat} {t':List (Nat×AV)} {x y:Operand} {D E:ae} {k:IntKind} (enc:α→AV) (xs:List α) (lo hi i:Int) (e:α) (hc:(decide (0≤lo)&&(decide (0≤i)&&decide (i<hi -lo)))=true) (he:aC xs (lo+i)=some e) (ht:ff P tt) (hg:dV ops ⟨n,t,m⟩ o=some true) (ho:o.op=.indexAddr ty x y) (hD:lk ty tt=some D) (hk:D.k=.slice el) (hE:lk el tt=some E)
  (hx:(⟨n,t,m⟩:St).ev x=.arr b lo.toNat (hi.toNat -lo.toNat)) (hy:(⟨n,t,m⟩:St).ev y=.sc (.int k i)) (hb:lk b m=some (some ⟨bt,bz,xs.map enc⟩)) (hz:Nat.beq bz E.size=true) (hp:fB n t o.dst (.ref b (lo+i).toNat 0)=some t')
  (h:Go P ops draw Q l ⟨n,t',m⟩ (some ⟨.ref b (lo+i).toNat 0,[],[b],[]⟩::acc)):Go P ops draw Q (o::l) ⟨n,t,m⟩ acc:=by
 simp only [Bool.and_eq_true,decide_eq_true_eq] at hc;have hA:=Ik (P:=P) (o:=o) (s:=⟨n,t,m⟩) ho (ht _ _ hD) hk (ht _ _ hE) hx hy hb hz hc.2.1 (by omega);rw [show lo.toNat+i.toNat=(lo+i).toNat by omega] at hA
 exact eL hg hA rfl hp rfl h
end
def Kw (P:Program) (f:Nat) (args:List AV) (M:Mem) (r:AV) (M':Mem):Prop:=
 ∀(u:FrameMode) (w:World) (vs:Array Value) (φ:Ph) (R:Nat→Prop),args.length=vs.size→(∀(i:Nat) (c:AV) (v:Value),args[i]?=some c→vs[i]?=some v→Rel w R φ c v)→gq w R φ M→
  (∀b x,φ b=some x→∃y,lk b M=some y)→(∀n,R n→n<w.heap.size)→
  CallsD P f vs u w fun e u' w'=>u'=u∧∃v φ' R',e=.returned v∧Rel w' R' φ' r v∧gq w' R' φ' M'∧(∀b k h,lk b M'=some (some k)→φ' b=some (some h)→w.heap.size≤h.cA∨cG φ M h.cA)∧
   (∀b k k',lk b M=some (some k)→lk b M'=some (some k')→φ' b=φ b)∧(∀n,R n→R' n)∧(∀n,R' n→R n∨w.heap.size≤n∨cG φ M n)∧(∀n,R' n→n<w'.heap.size)∧Ext w w' (cG φ M)
def Vg (φ:Ph) (R:Nat→Prop) (M:Mem) (r:AV) (M':Mem) (w:World) (e:Ending) (w':World):Prop:=
 ∃v φ' R',e=.returned v∧Rel w' R' φ' r v∧gq w' R' φ' M'∧(∀b k h,lk b M'=some (some k)→φ' b=some (some h)→w.heap.size≤h.cA∨cG φ M h.cA)∧
   (∀b k k',lk b M=some (some k)→lk b M'=some (some k')→φ' b=φ b)∧(∀n,R n→R' n)∧(∀n,R' n→R n∨w.heap.size≤n∨cG φ M n)∧(∀n,R' n→n<w'.heap.size)∧Ext w w' (cG φ M)
section
variable{P:Program}
theorem ai' {f n:Nat} {fn:Func} {body:Code} {args:List AV} {M:Mem} {r:AV} {M':Mem} {t:List (Nat×AV)} (hf:P.funcs[f]?=some fn) (hb:fn.body=some body) (hn:fn.ntmps=n) (hlen:Nat.ble args.length n=true) (hM:tD M=true) (ht:p8 0 args=some t)
  (h:∀lim,dO P lim body (oc (mz P fn M r M')) ⟨n,t,M⟩):Kw P f args M r M':=by
 intro u w vs φ R oD fq fP ma eJ;have hle:args.length≤n:=Nat.le_of_ble_eq_true hlen;refine(callsD_of_wp (R:=Vg φ R M r M' w) hf hb ?_).mono (fun _ _ _ h=>h)
 have jl:cz ⟨w,cG φ M,R,φ,[]⟩ φ R ⟨n,t,M⟩ {tmps:=vs++Array.replicate (fn.ntmps -vs.size) undef,defers:=[]} w:=by
  refine⟨by simp [hn];omega,fun t av rf=>?_,fP,ma,fun b k x hb hx=>.inr ⟨b,k,x,hb,hx,rfl⟩,fun _ h=>h,fun _ h=>.inl h,eJ,Ext.refl _ _,rfl,fun b _=>.inr rfl⟩;rw [←yr ht] at rf;obtain⟨_,h2⟩:=yi args 0 t av rf;simp only [Nat.sub_zero] at h2;have bB:t<vs.size:=by rw [←oD];exact(List.getElem?_eq_some_iff.1 h2).1
  have:=fq t av vs[t] h2 (by simp [bB]);simpa [Array.getD_eq_getD_getElem?,Array.getElem?_append_left bB,bB] using this
 refine wp_mono (h w.heap.size ⟨w,cG φ M,R,φ,[]⟩ rfl _ w ⟨φ,R,jl⟩) ?_;rintro e a' w' ⟨s',⟨fQ,R1,dc⟩,hq⟩
 have fin:mz P fn M r M' s'→a'.defers=[]∧∃v,(results fn a'.tmps).run P w'=.ok v w'∧Vg φ R M r M' w (.returned v) w':=by
  rintro⟨gr,ρ,f1,f2,f3,f4,f5⟩;obtain⟨v,g1,g2⟩:=yh dc f1;obtain⟨i1,i2⟩:=vy f2;obtain⟨m1,m2,m3⟩:=oC dc.m i1 i2 f5;refine⟨dc.d,v,g1,v,fQ.via ρ,R1,rfl,mE dc.m (m:=[]) (fun _ h=>h) (fun b k h hb=>by simp [lk] at hb) g2 f4,m1,fun b k x hb hx=>?_,fun b k k' h1 h2=>?_,dc.R0,dc.Rn,dc.Rb,dc.ext⟩
  ·obtain⟨b0,k0,_,e1,e2⟩:=m3 b k x hb hx;exact dc.fresh b0 k0 x e1 e2
  ·have ou:1000≤b:=Nat.le_of_ble_eq_true (by simpa using List.all_eq_true.1 hM _ (fR h1));obtain⟨oh,e1,_⟩:=m1.rel b k' h2;rcases IV f2 dc.eK b ou with h|h
   ·rw [h] at e1;cases e1
   ·exact h
 cases e with
 |normal=>exact fin hq
 |ret=>exact fin hq
 |_=>exact hq.elim
def Ce (c:Ctx) (r:AV) (e:Ending) (w':World):Prop:=
 ∃v φ' R',e=.returned v∧Rel w' R' φ' r v∧gq w' R' φ' []∧(∀n,c.R0 n→R' n)∧(∀n,R' n→c.R0 n∨c.w0.heap.size≤n)∧(∀n,R' n→n<w'.heap.size)∧Ext c.w0 w' (fun _=>False)
def Gi (P:Program) (fn:Func) (r:AV) (lim:Nat) (code:Code) (s:St):Prop:=
 ∀c:Ctx,c.w0.heap.size=lim→c.ds=[]→(∀n,¬c.G n)→∀(a:Act) (w:World),dh c s a w→code.wp P (bodyPostD P fn (Ce c r)) a w
theorem aja {f n:Nat} {fn:Func} {body:Code} {args:List AV} {r:AV} {t:List (Nat×AV)} (hf:P.funcs[f]?=some fn) (hb:fn.body=some body) (hn:fn.ntmps=n) (hlen:Nat.ble args.length n=true) (ht:p8 0 args=some t)
  (h:∀lim,Gi P fn r lim body ⟨n,t,[]⟩):Holds P f args [] r []:=by
 intro w vs φ R oD fq fP ma eJ;have hle:args.length≤n:=Nat.le_of_ble_eq_true hlen;have oM:∀{b:Nat} {k:Option eI},lk b ([]:Mem)=some k→False:=fun h=>by simp [lk] at h
 have jl:cz ⟨w,cG φ [],R,φ,[]⟩ φ R ⟨n,t,[]⟩ {tmps:=vs++Array.replicate (fn.ntmps -vs.size) undef,defers:=[]} w:=by
  refine⟨by simp [hn];omega,fun t av rf=>?_,fP,ma,fun b k x hb hx=>.inr ⟨b,k,x,hb,hx,rfl⟩,fun _ h=>h,fun _ h=>.inl h,eJ,Ext.refl _ _,rfl,fun b _=>.inr rfl⟩;rw [←yr ht] at rf;obtain⟨_,h2⟩:=yi args 0 t av rf;simp only [Nat.sub_zero] at h2;have bB:t<vs.size:=by rw [←oD];exact(List.getElem?_eq_some_iff.1 h2).1
  have:=fq t av vs[t] h2 (by simp [bB]);simpa [Array.getD_eq_getD_getElem?,Array.getElem?_append_left bB,bB] using this
 refine(calls_of_wp_defers hf hb (h w.heap.size ⟨w,cG φ [],R,φ,[]⟩ rfl rfl (fun n ⟨b,k,x,hb,_⟩=>oM hb) _ w ⟨φ,R,jl⟩)).mono ?_;rintro e w' ⟨v,φ',R',rfl,z1,z2,z3,z4,z5,z6⟩;exact⟨v,φ',R',rfl,z1,z2,fun b k x hb _=>(oM hb).elim,fun b k k' hb _=>(oM hb).elim,z3,fun n hn=>(z4 n hn).imp_right .inl,z5,⟨z6.os,z6.tape,z6.output,z6.dr,z6.size,fun i hi _=>z6.block i hi (fun h=>h)⟩⟩
theorem Kx {fn:Func} {r:AV} {lim:Nat} {x y:Code} {s:St} (h:dO P lim x (iA (Gi P fn r lim y) (fun _ _=>False)) s):Gi P fn r lim (.seq x y) s:=by
 intro c eu hd hG a w hs;refine wp_seq (wp_mono (h c eu a w hs) ?_);rintro e a' w' ⟨s',cu,hq⟩;cases e with
 |normal=>exact hq c eu hd hG a' w' cu
 |_=>exact hq.elim
def okB (ρ σ:cC) (m Mg tW:Mem) (b:Nat):Prop:=
 1000≤b∧lk b ρ=some (some b)∧lk b σ=some (some b)∧(∃k,lk b m=some (some k))∧(∃k,lk b Mg=some (some k))∧∃k,lk b tW=some (some k)
def Ky (p:Nat→Prop):List Nat→Prop
 |[]=>True
 |b::l=>p b∧Ky p l
theorem Vh {p:Nat→Prop}:∀{l:List Nat},Ky p l→∀b∈l,p b
 |[],_,b,h=>by cases h
 |a::l,hl,b,h=>by
  rcases List.mem_cons.1 h with h|h
  ·exact h▸hl.1
  ·exact Vh hl.2 b h
def vY (b:Nat):AV:=.ref b 0 0
def Kz (t:List (Nat×AV)) (p:Nat→Prop):List (Nat×Nat)→Prop
 |[]=>True
 |(q,b)::l=>lk q t=some (.ref b 0 0)∧p b∧Kz t p l
theorem Vi {t:List (Nat×AV)} {p:Nat→Prop}:∀{l:List (Nat×Nat)},Kz t p l→∀q av,lk q (l.map fun x=>(x.1,vY x.2))=some av→∃b,av=.ref b 0 0∧lk q t=some (.ref b 0 0)∧p b
 |[],_,q,av,h=>by simp [lk] at h
 |(q0,b0)::l,hl,q,av,h=>by
  rw [List.map_cons,dP] at h;split at h
  ·subst_vars;cases h;exact⟨b0,rfl,hl.1,hl.2.1⟩
  ·exact Vi hl.2.2 q av h
def Vj (P:Program) (fn:Func) (g:Nat) (bs:List Nat) (r:AV) (s:St):Prop:=
 ∃(Mg:Mem) (rg:AV) (tW:Mem) (ρ σ:cC) (W:Mem) (rs:List (Nat×Nat)),Kw P g (bs.map vY) Mg rg tW∧iC ρ=true∧(ρ.all fun p=>(lk p.1 Mg).isSome)=true∧et ρ s.m Mg∧iC σ=true∧(σ.all fun p=>(lk p.1 W).isSome)=true∧et σ tW W∧
  Ky (okB ρ σ s.m Mg tW) bs∧Kz s.t (okB ρ σ s.m Mg tW) rs∧mz P fn [] r [] ⟨s.n,rs.map fun x=>(x.1,vY x.2),W⟩
theorem ajb {fn:Func} {r:AV} {lim id q g n:Nat} {t:List (Nat×AV)} {m:Mem} {o0 o1:Oper} {sB:Array Operand} {post:Code} (ρ:cC) (t1:List (Nat×AV)) (M1:Mem) (bs:List Nat) (yp:bf P g) (h0:o0.op=.makeFunc (.func g) #[] sB) (h0d:o0.dst=some q) (h0g:o0.guard=none) (hq:Nat.blt q n=true)
  (h1:o1.op=.defer ⟨.value (.tmp q),#[],#[]⟩) (h1d:o1.dst=none) (h1g:o1.guard=none) (yY:gb [] ρ (sB.toList.map (⟨n,t,m⟩:St).ev) (bs.map vY)) (hi:iC ρ=true) (hk:(ρ.all fun p=>(lk p.1 M1).isSome)=true) (ht:pj ρ ⟨n,t,m⟩ t1) (hnq:(t1.all fun p=>!Nat.beq p.1 q)=true) (hM:et ρ m M1)
  (h:∀lim,dO P lim post (oc (Vj P fn g bs r)) ⟨n,t1,M1⟩):Gi P fn r lim (.seq (.region id #[o0,o1] false) post) ⟨n,t,m⟩:=by
 intro c eu hd hG a w ⟨φ,R,hs⟩;obtain⟨Vk,e1,e2,e3⟩:=yp;have hqn:q<n:=by simpa [Nat.blt_eq] using hq
 obtain⟨cv,KA⟩:∃cv,cv=sB.map a.eval:=⟨_,rfl⟩
 refine wp_seq (wp_region ?_);have r9:∀y,Region.wanted o0 y=true:=fun y=>by simp [Region.wanted,h0g]
 have Bk:∀y,Region.wanted o1 y=true:=fun y=>by simp [Region.wanted,h1g]
 have dj:(#[o0,o1]:Array Oper).size=2:=rfl;have vh:List.range 2=[0,1]:=rfl;rw [dj,vh];simp only [wpOps,List.getElem?_toArray,List.getElem?_cons_zero,List.getElem?_cons_succ,r9,Bk,if_true];refine .inl ?_
 have x0:(execOp a.eval o0).run P w=.ok (.value (.func (.func g) #[] cv)) w:=by
  simp [execOp,h0,Instr.makeFunc,KA]
 unfold Oper.wp;rw [x0,Oper.upon_value,h0d];refine .inl ?_;have Vl:a.tmps.size=n:=hs.n
 have x1:(execOp (a.put (some q) (.func (.func g) #[] cv)).eval o1).run P w=.ok (.defer {target:=.fn (.func g) cv,args:=#[]}) w:=by
  have:(a.put (some q) (.func (.func g) #[] cv)).eval (.tmp q)=.func (.func g) #[] cv:=by
   simp [Act.eval,Act.put,Vl,hqn]
  simp [execOp,h1,resolve,this,Deferred.ofValue]
 rw [x1,Oper.upon_defer,h1d];obtain⟨m1,m2,m3⟩:=oC hs.m hi hk hM;obtain⟨d,Vm⟩:∃d:Deferred,d={target:=.fn (.func g) cv,args:=#[]}:=⟨_,rfl⟩
 obtain⟨a1,Gj⟩:∃a1:Act,a1={tmps:=a.tmps.setIfInBounds q (.func (.func g) #[] cv),defers:=[d]}:=⟨_,rfl⟩
 have Fp:(({(a.put (some q) (.func (.func g) #[] cv)) with defers:={target:=.fn (.func g) cv,args:=#[]}::(a.put (some q) (.func (.func g) #[] cv)).defers}:Act).put none undef)=a1:=by
  have:(a.put (some q) (.func (.func g) #[] cv)).defers=[]:=by rw [put_defers,hs.d,hd]
  rw [this,Gj,Vm];rfl
 rw [Fp];show post.wp P (bodyPostD P fn (Ce c r)) a1 w
 have KC:∀b k x,lk b M1=some (some k)→φ.via ρ b=some (some x)→c.w0.heap.size≤x.cA:=fun b k x hb hx=>by
  obtain⟨b0,k0,_,g2,g3⟩:=m3 b k x hb hx;exact(hs.fresh b0 k0 x g2 g3).resolve_right (hG _)
 have dc:cz ⟨w,cG (φ.via ρ) M1,R,φ.via ρ,[d]⟩ (φ.via ρ) R ⟨n,t1,M1⟩ a1 w:=by
  refine⟨by simp [Gj,Vl],fun q' av mB=>?_,m1,m2,fun b k x hb hx=>.inr ⟨b,k,x,hb,hx,rfl⟩,fun _ h=>h,fun _ h=>.inl h,hs.Rb,Ext.refl _ _,by rw [Gj],fun b _=>.inr rfl⟩
  have ep:q'≠q:=by
   have:=List.all_eq_true.1 hnq _ (fR mB);intro e;subst e;simp at this
  have:=mE hs.m (m:=[]) (fun _ h=>h) (fun b k h hb=>by simp [lk] at hb) (hs.get q') (Ff ht q' av (fR mB))
  have e:a1.tmps.getD q' undef=a.tmps.getD q' undef:=by
   rw [Gj];simp [Array.getD_eq_getD_getElem?,Array.getElem?_setIfInBounds,Ne.symm ep]
  rw [e];exact this
 have aji:∀(i:Nat) (c:AV) (v:Value),(bs.map vY)[i]?=some c→cv[i]?=some v→Rel w R (φ.via ρ) c v:=by
  intro i c' v hc hv;rw [KA,Array.getElem?_map] at hv;cases hx:sB[i]?with
  |none=>rw [hx] at hv;cases hv
  |some x=>
   rw [hx] at hv;cases hv;have:=(l_ yY).2 i ((⟨n,t,m⟩:St).ev x) c' (by rw [List.getElem?_map,Array.getElem?_toList,hx];rfl) hc;exact mE hs.m (m:=[]) (fun _ h=>h) (fun b k h hb=>by simp [lk] at hb) (hs.ev x) this
 have ajj:(bs.map vY).length=cv.size:=by
  have:=(l_ yY).1;rw [KA];simp at this⊢;exact this.symm
 refine wp_mono (h w.heap.size ⟨w,cG (φ.via ρ) M1,R,φ.via ρ,[d]⟩ rfl a1 w ⟨_,_,dc⟩) ?_;rintro e a' w' ⟨s',⟨jm,R2,kI⟩,hq⟩
 have fin:Vj P fn g bs r s'→Leaves P fn a'.tmps (Ce c r) a'.defers .returning w':=by
  rintro⟨Mg,rg,tW,Cf,σ,W,rs,HD,j1,j2,j3,j4,j5,j6,j7,j8,gr,ρ3,f1,f2,f3,f4,f5⟩;obtain⟨n1,n2,n3⟩:=oC kI.m j1 j2 j3;rw [kI.d];show Leaves P fn a'.tmps (Ce c r) [d] .returning w'
  rw [Vm]
  have same:∀b,okB Cf σ s'.m Mg tW b→jm.via Cf b=φ.via ρ b∧jm b=φ.via ρ b:=by
   rintro b ⟨k1,k2,_,⟨kk,k3⟩,_,_⟩;obtain⟨oh,o1,_⟩:=kI.m.rel b kk k3
   have e2:jm b=φ.via ρ b:=by
    rcases kI.eK b k1 with q1|q1
    ·rw [q1] at o1;cases o1
    ·exact q1
   refine⟨?_,e2⟩;rw [←e2];simp [Ph.via,k2]
  have Vn:∀(KD KE:Ph) (wa wb:World) (Ra Rb:Nat→Prop) (b:Nat) (v:Value),KE b=KD b→Rel wa Ra KD (.ref b 0 0) v→Rel wb Rb KE (.ref b 0 0) v:=by
   intro KD KE wa wb Ra Rb b v hb hr;cases hr with
   |ref hh=>exact .ref (hb.trans hh)
  have Vo:∀n,cG (jm.via Cf) Mg n→c.w0.heap.size≤n:=by
   rintro n ⟨b,k,x,hb,hx,rfl⟩;obtain⟨b0,k0,_,g2,g3⟩:=n3 b k x hb hx;rcases kI.fresh b0 k0 x g2 g3 with g|⟨b1,k1,x1,g4,g5,g6⟩
   ·exact Nat.le_trans hs.ext.size g
   ·rw [←g6];exact KC b1 k1 x1 g4 g5
  refine leaves_cons (by simp) (f:=g) (args:=cv) ?_ ((HD .returning w' cv (jm.via Cf) R2 ajj (fun i c' v hc hv=>?_) n1 n2 kI.Rb).mono ?_)
  ·have I8:Vk.name≠ "runtime.NumGoroutine":=by simpa using e2
   have I9:Vk.body≠none:=by
    intro hb;rw [hb] at e3;cases e3
   simp [invoke,callFunc,e1,I8,I9]
  ·have:=aji i c' v hc hv;rw [List.getElem?_map] at hc;cases hb:bs[i]?with
   |none=>rw [hb] at hc;cases hc
   |some b=>
    rw [hb] at hc;cases hc;exact Vn _ _ _ _ _ _ b v (same b (Vh j7 b (List.mem_of_getElem? hb))).1 this
  ·rintro e u' w2 ⟨rfl,v,mQ,R3,rfl,z1,z2,z3,z4,z5,z6,z7,z8⟩;show Leaves P fn a'.tmps (Ce c r) [] .returning w2
   obtain⟨p1,p2,p3⟩:=oC z2 j4 j5 j6
   have gi:cz ⟨w2,cG (mQ.via σ) W,R3,mQ.via σ,a'.defers⟩ (mQ.via σ) R3 ⟨s'.n,rs.map fun x=>(x.1,vY x.2),W⟩ a' w2:=by
    refine⟨kI.n,fun q' av mB=>?_,p1,p2,fun b k x hb hx=>.inr ⟨b,k,x,hb,hx,rfl⟩,fun _ h=>h,fun _ h=>.inl h,z7,Ext.refl _ _,rfl,fun b _=>.inr rfl⟩;obtain⟨b,rfl,g1,g2⟩:=Vi j8 q' av mB;have:=kI.t q' _ g1;refine Vn jm _ _ _ _ _ b _ ?_ this;have g3:=g2;obtain⟨_,y1,y2,_,⟨k,y3⟩,⟨k',y4⟩⟩:=g3;have e3:mQ b=(jm.via Cf) b:=z4 b k k' y3 y4;have e4:=same b g2;simp only [Ph.via,y2];rw [e3,e4.1,e4.2]
   obtain⟨v,g1,g2⟩:=yh gi f1;obtain⟨i1,i2⟩:=vy f2;obtain⟨r1,r2,r3⟩:=oC gi.m i1 i2 f5;refine⟨v,g1,v,(mQ.via σ).via ρ3,R3,rfl,mE gi.m (m:=[]) (fun _ h=>h) (fun b k h hb=>by simp [lk] at hb) g2 f4,r1,fun n hn=>z5 n (kI.R0 n (hs.R0 n hn)),fun n hn=>?_,z7,?_⟩
   ·rcases z6 n hn with g|g|g
    ·rcases kI.Rn n g with g|g|⟨b1,k1,x1,g4,g5,g6⟩
     ·rcases hs.Rn n g with g|g|g
      ·exact .inl g
      ·exact .inr g
      ·exact(hG n g).elim
     ·exact .inr (Nat.le_trans hs.ext.size g)
     ·exact .inr (g6▸KC b1 k1 x1 g4 g5)
    ·exact .inr (Nat.le_trans hs.ext.size (Nat.le_trans kI.ext.size g))
    ·exact .inr (Vo n g)
   ·have t1:Ext c.w0 w' (fun _=>False):=by
     have a1:Ext c.w0 w (fun _=>False):=⟨hs.ext.os,hs.ext.tape,hs.ext.output,hs.ext.dr,hs.ext.size,fun i hi _=>hs.ext.block i hi (hG i)⟩;refine a1.trans kI.ext ?_;rintro i hi ⟨b1,k1,x1,g4,g5,g6⟩;have:=KC b1 k1 x1 g4 g5;omega
    refine t1.trans z8 ?_;intro i hi hb;have:=Vo i hb;omega
 cases e with
 |normal=>exact fin hq
 |ret=>exact fin hq
 |_=>exact hq.elim
end
end Go.Ab
namespace Go.Ab
open Go.RowKit Go.Proofs
theorem ajl {W w':World} {G:Nat→Prop} (h:Ext W w' G) (hG:∀n,¬G n):∃q Vp,w'=Go.Sort.grow (W.drewN q) Vp:=by
 refine⟨w'.drawn -W.drawn,w'.heap.extract W.heap.size w'.heap.size,?_⟩
 have hh:w'.heap=W.heap++w'.heap.extract W.heap.size w'.heap.size:=by
  apply Array.ext_getElem?;intro i;rw [Array.getElem?_append];by_cases hi:i<W.heap.size
  ·rw [if_pos hi];exact h.block i hi (hG i)
  ·rw [if_neg hi,Array.getElem?_extract];split
   ·congr 1;omega
   ·rename_i h2;have:=h.size;exact Array.getElem?_eq_none (by omega)
 have hd:=h.dr;have ho:=h.os;have ht:=h.tape;have hu:=h.output;generalize w'.heap.extract W.heap.size w'.heap.size=Vp at hh;cases w' with
 |mk heap tape drawn os output=>
  cases W with
  |mk apY apZ ap0 os0 ap2=>
   dsimp only at hd ho ht hu hh;subst ho ht hu hh;simp only [Go.Sort.grow,World.drewN];congr 1;omega
theorem KF {h:Array Obj} {b:Nat} {f:Obj→Obj} {os:Array Obj} {n:Nat} (hn:n<h.size) (ep:n≠b):(h.modify b f++os)[n]?=h[n]?:=by
 rw [Array.getElem?_append_left (by simpa using hn),Array.getElem?_modify,if_neg (Ne.symm ep)]
section
variable{P:Program} {ρ:Go.Shelf.Ren} {α:Type} [Inhabited α]
theorem ajm (L:SlLaysF0.n6 P ρ) (k:Nat) (pq:0<k) (aE:∀w,(isAgg (ρ.t 24)).run P w=.ok true w) (zE:∀w,(Go.sizeOf (ρ.t 24)).run P w=.ok k w) (enc:α→AV) (fI:α→List Value) (hk:∀x,(fI x).length=k) (hf:∀x,∀v∈fI x,flat v=true) (h1:∀x,∀v∈fI x,v.oneCell'=true) (KG:∀x,enc x=.agg ((fI x).map .sc))
  (cf:α→α→Int) (hO:Go.Sort.SWO (ltOf cf)) (hT:∀x y,(ltOf cf) x y=false→(ltOf cf) y x=false→x=y) (g:Nat) (eg:∀args w,(callFunc g args).run P w=.ok (.enter g args) w) (hcf:∀x y,Holds P g [enc x,enc y] [] (.sc (.int .i64 (cf x y))) []) (T:Nat) (xs:List α) (dj:xs.length<4611686018427387904) (f:Nat) (hfe:ρ.f 6=f):
  Holds P f [.arr 1300 0 xs.length,.cE g [] []] [(1300,some ⟨T,k,xs.map enc⟩)] (.bR []) [(1300,some ⟨T,k,(xs.mergeSort fun x y=>!(ltOf cf) y x).map enc⟩)]:=by
 subst hfe;intro w vs φ R oD fq fP ma eJ
 have Gk:∃v0 v1,vs=#[v0,v1]:=by
  have:vs.size=2:=oD.symm;refine⟨vs[0],vs[1],?_⟩;apply Array.ext
  ·simpa using this
  ·intro i h1 h2;have:i<2:=by simpa using h2
   match i,this with
   |0,_=>rfl
   |1,_=>rfl
 obtain⟨v0,v1,rfl⟩:=Gk;have r0:=fq 0 _ v0 rfl rfl;have r1:=fq 1 _ v1 rfl rfl
 have bx:v1=.func (.func g) #[] #[]:=by
  cases r1 with
  |@cE _ _ _ _ fv cv e1 e2 _ _=>
   have a1:fv=#[]:=Array.eq_empty_of_size_eq_zero e1.symm;have a2:cv=#[]:=Array.eq_empty_of_size_eq_zero e2.symm;rw [a1,a2]
 subst bx;obtain⟨oh,ho,ox⟩:=fP.rel 1300 _ rfl
 have one:∀b (x:Option eI),lk b [(1300,some (⟨T,k,xs.map enc⟩:eI))]=some x→b=1300:=by
  intro b x hb;rw [dP] at hb;split at hb
  ·assumption
  ·cases hb
 have Cg:∀b (x:Option eI),lk b [(1300,some (⟨T,k,(xs.mergeSort fun x y=>!(ltOf cf) y x).map enc⟩:eI))]=some x→b=1300∧x=some ⟨T,k,(xs.mergeSort fun x y=>!(ltOf cf) y x).map enc⟩:=by
  intro b x hb;rw [dP] at hb;split at hb
  ·exact⟨by assumption,(Option.some.inj hb).symm⟩
  ·cases hb
 have fin:∀w':World,(∀n,R n→w'.heap[n]?=w.heap[n]?)→w.heap.size≤w'.heap.size→iB w' R φ oh ⟨T,k,(xs.mergeSort fun x y=>!(ltOf cf) y x).map enc⟩→Ext w w' (cG φ [(1300,some ⟨T,k,xs.map enc⟩)])→
   ∃v φ' R',Ending.returned (.tuple #[])=.returned v∧Rel w' R' φ' (.bR []) v∧gq w' R' φ' [(1300,some ⟨T,k,(xs.mergeSort fun x y=>!(ltOf cf) y x).map enc⟩)]∧(∀b k1 h,lk b [(1300,some (⟨T,k,(xs.mergeSort fun x y=>!(ltOf cf) y x).map enc⟩:eI))]=some (some k1)→φ' b=some (some h)→w.heap.size≤h.cA∨cG φ [(1300,some ⟨T,k,xs.map enc⟩)] h.cA)∧
   (∀b k1 k',lk b [(1300,some (⟨T,k,xs.map enc⟩:eI))]=some (some k1)→lk b [(1300,some (⟨T,k,(xs.mergeSort fun x y=>!(ltOf cf) y x).map enc⟩:eI))]=some (some k')→φ' b=φ b)∧(∀n,R n→R' n)∧(∀n,R' n→R n∨w.heap.size≤n∨cG φ [(1300,some ⟨T,k,xs.map enc⟩)] n)∧(∀n,R' n→n<w'.heap.size)∧Ext w w' (cG φ [(1300,some ⟨T,k,xs.map enc⟩)]):=by
  intro w' hw hs hb hx;refine⟨.tuple #[],φ,R,rfl,.bR rfl (by simp),⟨?_,?_,?_,fP.gl.mono hw (fun _ h=>h)⟩,?_,fun _ _ _ _ _=>rfl,fun _ h=>h,fun _ h=>.inl h,fun n hn=>Nat.lt_of_lt_of_le (eJ n hn) hs,hx⟩
  ·intro b k1 h1;obtain⟨rfl,e⟩:=Cg _ _ h1;cases e;exact⟨oh,ho,hb⟩
  ·intro b b' k1 k2 h h' h1 h2 _ _ _;rw [(Cg _ _ h1).1,(Cg _ _ h2).1]
  ·intro b k1 h h1 e1;obtain⟨rfl,_⟩:=Cg _ _ h1;exact fP.fA 1300 _ h rfl e1
  ·intro b k1 h h1 e1;obtain⟨rfl,_⟩:=Cg _ _ h1;exact .inr ⟨1300,_,h,rfl,e1,rfl⟩
 generalize E1:xs.length=n0 at r0;cases r0 with
 |kg hb=>
  have hx:xs=[]:=List.eq_nil_of_length_eq_zero E1;subst hx;rw [hb] at ho;cases ho;refine(AnyF.slices_SortFunc_none {L with} none 0 (.func (.func g) #[] #[]) w).mono ?_;rintro e w' ⟨rfl,rfl⟩;exact fin w' (fun _ _=>rfl) (Nat.le_refl _) (by show List.map enc _=[];simp) (Ext.refl _ _)
 |@arr _ _ _ _ cap h hb lE tu=>
  rw [hb] at ho;cases ho;obtain⟨e1,e2,e3,e4,C,e5,e6,e7⟩:=ox;dsimp only at e1 e3;subst E1;have lC:¬R h.cA:=fP.fA 1300 _ h rfl hb;have hblk:h.cA<w.heap.size:=(Array.getElem?_eq_some_iff.1 e5).1;have kh:xs.length≤h.cap:=by simpa using e3
  have cellAt:∀(i j:Nat) (x:α),xs[i]?=some x→j<k→C[i*k+j]?=some (fI x)[j]!:=by
   intro i j x hx hj;obtain⟨q1,q2⟩:=e7 i (enc x) (by simp [hx]);have eR:j<(fI x).length:=by rw [hk];exact hj
   obtain⟨u,hu,hr⟩:=q2 j (.sc (fI x)[j]) (by rw [KG];simp [AV.cells,eR]);have:=hr.gI;rw [←e1] at hu;rw [hu,this];simp [eR]
  have hH:Go.Sort.HoldsK fI k w h.cA 0 xs.toArray:=by
   intro t ht;have rf:t<xs.length*k:=by simpa using ht
   have hi:t/k<xs.length:=by rw [Nat.div_lt_iff_lt_mul pq];exact rf
   have hc:=cellAt (t/k) (t%k) xs[t/k] (List.getElem?_eq_getElem hi) (Nat.mod_lt _ pq);rw [Nat.mul_comm,Nat.div_add_mod] at hc;rw [Go.Sort.get_flatK _ _ _ _ (by simpa using rf),Nat.zero_add];refine⟨?_,by simp [World.frozen?,e5]⟩;simp only [World.cell?,e5,id];rw [hc];simp [hi]
  have ajp:CmpLays P g #[] fI k cf h.cA 0 xs.toArray.size w:=by
   intro m os dk _ x y;have hW:∀n,R n→(sortWorldK fI k w h.cA 0 m dk os).heap[n]?=w.heap[n]?:=fun n hn=>KF (eJ n hn) (fun e=>lC (e▸hn))
   refine(hcf x y (sortWorldK fI k w h.cA 0 m dk os) #[.agg (fI x).toArray,.agg (fI y).toArray] Ph.no R rfl ?_ ⟨fun b k hb=>by simp [lk] at hb,fun b b' k k' h h' hb=>by simp [lk] at hb,fun b k h hb=>by simp [lk] at hb,fP.gl.mono hW (fun _ h=>h)⟩ (fun b x hx=>by cases hx) (fun n hn=>Nat.lt_of_lt_of_le (eJ n hn) ?_)).mono ?_
   ·have rel:∀z:α,Rel (sortWorldK fI k w h.cA 0 m dk os) R Ph.no (enc z) (.agg (fI z).toArray):=fun z=>by
     rw [KG];refine .agg (by simp) fun i c v hc hv=>?_
     simp only [List.getElem?_map,List.getElem?_toArray] at hc hv;rw [hv] at hc;cases hc;exact .sc (hf z v (List.mem_of_getElem? hv))
    intro i c v hc hv
    match i with
    |0=>cases hc;cases hv;exact rel x
    |1=>cases hc;cases hv;exact rel y
    |i+2=>simp at hc
   ·show w.heap.size≤(w.heap.modify h.cA _++os).size
    simp
   ·rintro e w' ⟨v,φ',R',rfl,hr,_,_,_,_,_,_,hx⟩;refine⟨by rw [hr.gI],ajl hx ?_⟩;rintro n ⟨b,k,h,hb,_⟩;simp [lk] at hb
  rw [show(0:Nat)*h.bW=0 by omega]
  have Gl:=AnyQ.slices_SortFunc_total L k aE zE fI hk h1 cf hO g #[] h.cA 0 cap xs.toArray w eg ajp hH hblk (by simpa using dj) hT;rw [List.size_toArray] at Gl;refine Gl.mono ?_;rintro e w' ⟨rfl,n,os,rfl⟩;generalize hD:(xs.toArray.toList.mergeSort fun x y=>!(ltOf cf) y x)=D;have Vq:(xs.mergeSort fun x y=>!(ltOf cf) y x)=D:=by rw [←hD]
  have hDl:D.length=xs.length:=by rw [←Vq,List.length_mergeSort]
  rw [Vq] at fin;have Ci:(sortWorldK fI k w h.cA 0 n D.toArray os).heap=w.heap.modify h.cA (Go.Sort.onCells (Go.Sort.putCells id 0 (Go.Sort.flatK fI k D.toArray)))++os:=rfl;refine fin _ (fun q hq=>by rw [Ci];exact KF (eJ q hq) (fun e=>lC (e▸hq))) (by rw [Ci];simp) ⟨e1,e2,by simpa [hDl] using kh,e4,Go.Sort.putCells id 0 (Go.Sort.flatK fI k D.toArray) C,?_,by simp [Go.Sort.putCells,e6],?_⟩ ⟨rfl,rfl,rfl,by show w.drawn≤w.drawn+n;omega,by rw [Ci];simp,fun i hi ep=>by rw [Ci];exact KF hi (fun e=>ep ⟨1300,_,h,rfl,hb,e.symm⟩)⟩
  ·rw [Ci,Array.getElem?_append_left (by simpa using hblk),Array.getElem?_modify,if_pos rfl,e5];rfl
  ·intro i x hx;dsimp only at hx;rw [List.getElem?_map] at hx;cases hq:D[i]?with
   |none=>rw [hq] at hx;cases hx
   |some y=>
    rw [hq] at hx;cases hx;rw [KG,←e1];refine⟨by simp [AV.cells,hk],fun j c hc=>?_⟩;have hi:i<D.length:=(List.getElem?_eq_some_iff.1 hq).1
    have hj:j<k:=by
     have:=(List.getElem?_eq_some_iff.1 hc).1;simpa [AV.cells,hk] using this
    have ET:j<(fI y).length:=by rw [hk];exact hj
    have bB:i*k+j<D.length*k:=tn hi hj
    have ajr:i*k+j<C.size:=by
     have:=Nat.mul_le_mul_right k (show D.length≤h.cap by omega)
     rw [e6,←e1];omega
    refine⟨(fI y)[j],?_,?_⟩
    ·have IJ:D[i]=y:=(List.getElem?_eq_some_iff.1 hq).2;simp only [Go.Sort.putCells,Array.getElem?_mapIdx];rw [Array.getElem?_eq_getElem ajr];simp only [Option.map_some,Nat.zero_le,true_and,Nat.zero_add,Go.Sort.size_flatK,List.size_toArray,if_pos bB,Nat.sub_zero,id];rw [Go.Sort.get_flatK _ _ _ _ (by simpa using bB)];have d1:(i*k+j)/k=i:=(Go.Sort.blk_iff k i _ pq).1 ⟨by omega,by omega⟩;have d2:(i*k+j)%k=j:=by rw [Nat.mul_comm,Nat.mul_add_mod,Nat.mod_eq_of_lt hj]
     rw [d1,d2];simp [hi,IJ,ET]
    ·have:c=.sc (fI y)[j]:=by
      simp [AV.cells,ET] at hc;exact hc.symm
     rw [this];exact .sc (hf y _ (List.getElem_mem _))
end
end Go.Ab
namespace Go.Proofs.YtccnpbnokndeeaaGreatDoor
open Go Go.Ab
section
variable{lim id n:Nat} {ops:Array Oper} {draw:Bool} {t t':List (Nat×AV)} {m m':Mem} {l l':List Oper} {acc my:List (Option dN)} {Q:Exit→St→Prop} {R:St→Prop} {nx:St→Prop} {y:Code} {s:St}
theorem Zr (k:Nat) (h:pb tt ops k l n t m acc=some (l',t',m',my)) (hg:Go Tryz.prog ops draw R l' ⟨n,t',m'⟩ my):Go Tryz.prog ops draw R l ⟨n,t,m⟩ acc:=H9 ab k h hg
theorem Zn (h:nx s):Go Tryz.prog ops false (iA nx Q .normal) [] s acc:=aA nd (ak h)
theorem af (k:Nat) (h:pb tt ops k l n t m acc=some ([],t',m',my)) (hx:nx ⟨n,t',m'⟩):Go Tryz.prog ops false (iA nx Q .normal) l ⟨n,t,m⟩ acc:=Zr k h (Zn hx)
theorem aQ (k:Nat) (h:pb tt ops k ops.toList n t m []=some (l',t',m',my)) (hg:Go Tryz.prog ops draw (Q .normal) l' ⟨n,t',m'⟩ my):dO Tryz.prog lim (.region id ops draw) Q ⟨n,t,m⟩:=eQ bX (Zr k h hg)
theorem fY (k:Nat) (h:pb tt ops k ops.toList n t m []=some ([],t',m',my)) (hx:nx ⟨n,t',m'⟩):dO Tryz.prog lim (.region id ops false) (iA nx Q) ⟨n,t,m⟩:=aQ k h (Zn hx)
theorem aq (k:Nat) (h:pb tt ops k ops.toList n t m []=some (l',t',m',my)) (hg:Go Tryz.prog ops draw (iA (dO Tryz.prog lim y Q) Q .normal) l' ⟨n,t',m'⟩ my):dO Tryz.prog lim (.seq (.region id ops draw) y) Q ⟨n,t,m⟩:=ay (aQ k h hg)
theorem aa (k:Nat) (h:pb tt ops k ops.toList n t m []=some ([],t',m',my)) (hx:dO Tryz.prog lim y Q ⟨n,t',m'⟩):dO Tryz.prog lim (.seq (.region id ops false) y) Q ⟨n,t,m⟩:=ay (fY k h hx)
theorem Zk (h:nx s):dO Tryz.prog lim .skip (iA nx Q) s:=b_ (ak h)
theorem Ze (h:Q .ret s):dO Tryz.prog lim .ret (iA nx Q) s:=aK (aF h)
theorem Zp {α:Type} {P:α→Prop} {t r:α} (h:some t=some r) (k:P t):P r:=ar h▸k
theorem Zq {α:Type} {F:α→AV} {t r:α} {fn:Func} {vs:List AV} (h:some t=some r) (hr:oa tt s fn.results.toList=some vs) (hv:rV vs=some (F t)) (hn:eE (F t)=true):oc (mz Tryz.prog fn [] (F r) []) .ret s:=ar h▸a8 (bp ab hr hv (aB _ hn))
theorem Zv {α:Type} {F:α→AV} {t r:α} {fn:Func} {vs:List AV} (h:some t=some r) (hr:oa tt s fn.results.toList=some vs) (hv:rV vs=some (F t)) (hn:eE (F t)=true):oc (mz Tryz.prog fn [] (F r) []) .normal s:=ar h▸od (bp ab hr hv (aB _ hn))
theorem Zx {p:Prop} {b c:Bool} (h:b=c) (e:b=!c:=by rfl):p:=by
  subst h;cases b<;>cases e
end
end Go.Proofs.YtccnpbnokndeeaaGreatDoor
end
