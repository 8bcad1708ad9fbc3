/- Texts for the law: Ab32, Ab33, Ab34, Ab35, Ab36, Ab37, Ab38, Ab39, Ab40, Ab41, Ab42, Ab43, Ab44, Ab45, Ab46, Ab47, Ab49, Ab48, EXTRA. -/
import Derived.Test.YtccnpbnokndeeaaGreatDoorM2
import Derived.RangeFuncIn
import Derived.RangeFuncLeaves
import Derived.RangeFuncRecord
import Derived.RangeFuncSeq
import Derived.Shelf.Abstract
import Derived.WalkKit
import Derived.OwnWalkIn
import Derived.TacticsInMore
import Derived.LoopNIn
import Derived.LoopIn
import Derived.StillTactics
import Derived.LoopN
import Derived.Defers
import Derived.Shelf.SlSortCmp.NoneTotal
noncomputable section
open Option renaming bind→β
open Sum renaming inr→ι,inl→κ
namespace Go.Ab
open Go.RowKit
variable{P:Program}
theorem sn {ops:Array Oper} {Q:Exit→Act→World→Prop} {lp n:Nat} (hd:∀o∈ops,∀c,o.op≠.defer c) (hQ:¬LetsOut Q):∀(l:List Nat) (a:Act) (w:World),wpOps P ops Q l a w→wpOpsIn (Fence.wide.inRound lp) n P ops Q l a w
 |[],a,w,h=>h
 |i::l,a,w,h=>by
  simp only [wpOps] at h;simp only [wpOpsIn];cases ho:ops[i]?with
  |none=>
   simp only [ho] at h⊢;exact sn hd hQ l a w h
  |some o=>
   simp only [ho] at h⊢;by_cases hw:Region.wanted o (yielded ops a.tmps)=true
   ·simp only [hw,if_true] at h⊢;rcases h with h|⟨_,h⟩
    ·refine⟨fun _ _=>trivial,?_⟩;rw [Oper.semAt_eq _ _ _ (hd o (Array.mem_of_getElem? ho))];unfold Oper.wp at h;generalize(execOp a.eval o).run P w=r at h;cases r with
     |ok x w'=>
      cases x with
      |value v=>exact sn hd hQ l _ _ h
      |skip=>exact sn hd hQ l _ _ h
      |defer d=>exact sn hd hQ l _ _ h
      |enter f args=>
       refine⟨fun e=>by simp [Fence.inRound,Fence.wide] at e,?_⟩;refine callsIn_wide.2 (Calls.mono h ?_);intro e BK hq;cases e with
       |returned v=>exact sn hd hQ l _ _ hq
       |panicked c=>exact hq
       |outgrown=>exact hq
      |row r args=>
       refine⟨fun e=>by simp [Fence.inRound,Fence.wide] at e,?_⟩;intro c cs _;obtain⟨v,BK,hr,hs⟩:=h c cs;exact⟨v,BK,sn hd hQ l _ _ hr,stepsIn_wide.2 hs⟩
      |round _ _ _ _ _=>exact h.elim
      |_=>exact h.elim
     |halt x w'=>
      cases x with
      |panic v=>exact h
      |_=>exact h.elim
    ·exact absurd h hQ
   ·simp only [hw,if_false,Bool.false_eq_true] at h⊢;exact⟨fun _ _=>trivial,sn hd hQ l _ _ h⟩
theorem ajU {id lp n:Nat} {ops:Array Oper} {draw:Bool} {Q:Exit→Act→World→Prop} {c:Ctx} {K:St→Prop} {s:St} {a:Act} {w:World} {r:List (Option ec)} (hd:∀o∈ops,∀c,o.op≠.defer c) (hQ:¬LetsOut Q) (A7:∀s s',jw s s'→K s→K s') (hK:∀s a w,K s→dJ c s a w→Q .normal a w)
  (hlen:ops.toList.length=r.length) (cL:P.follows .mixedOrders=true) (vw:draw=true→vq ops (items 0 ops.toList r)=true) (hr:iq P ops K (items 0 ops.toList r) s) (hs:dJ c s a w):(Code.region id ops draw).wpIn (Fence.wide.inRound lp) n P Q a w:=by
 obtain⟨h1,h2⟩:=vu ops.toList r 0 hlen
 have vx:∀x∈items 0 ops.toList r,ops[x.i]?=some x.o:=fun x hx=>by
  have:=(h2 x hx).2;simpa using this
 cases draw with
 |false=>
  refine wpIn_region (sn hd hQ _ _ _ ?_);have:=Ek hK _ s a w vx hr hs;rw [h1] at this;simpa using this
 |true=>
  refine wpIn_region_draw fun t=>sn hd hQ _ _ _ ?_
  simp only [Region.schedule,cL,Bool.true_or,if_true];refine wpAny_sound ops.size t _ a _ ?_;have fm:=vw rfl;unfold vq at fm;simp only [Bool.and_eq_true] at fm
  have hl:(items 0 ops.toList r).length=ops.size:=by
   have:=congrArg List.length h1;simpa using this
  have cJ:dJ c s a {w with drawn:=w.drawn+1}:=by
   obtain⟨φ,R,q⟩:=hs;have e:=q.ext.trans (G':=fun _=>False) (c:={w with drawn:=w.drawn+1}) ⟨rfl,rfl,rfl,Nat.le_succ _,Nat.le_refl _,fun _ _ _=>rfl⟩ (fun _ _ h=>h.elim);refine⟨φ,R,q.n,fun t av ht=>(q.t t av ht).mono (fun _ _=>rfl) (fun _ h=>h) (fun _ _ h=>h),⟨fun b k hb=>?_,q.m.inj,q.m.ga,q.m.gl.mono (fun _ _=>rfl) (fun _ h=>h)⟩,q.gM,q.fresh,q.R0,q.Rn,q.Rb,e,q.d,q.gi⟩;obtain⟨oh,ho,hr⟩:=q.m.rel b k hb;exact⟨oh,ho,hr.mono (fun _ _=>rfl) (fun _ _=>rfl) (fun _ _ h=>h)⟩
  refine O8 A7 hK fm.1 ops.size _ _ s a _ hl (by simp) vx ?_ ?_ ?_ fm.2 hr cJ
  ·rw [h1];simp only [Nat.zero_add,List.map_id'];exact List.pairwise_lt_range
  ·intro i hi;rw [h1];simp [Array.getD_eq_getD_getElem?,hi]
  ·intro j o ho hj;simp [Array.getD_eq_getD_getElem?,(Array.getElem?_eq_some_iff.1 ho).1] at hj
def ll (P:Program) (lim:Nat) (code:Code) (Q:Exit→St→Prop) (s:St):Prop:=
 ∀(lp n:Nat) (c:Ctx) (_:c.w0.heap.size=lim) (a:Act) (w:World),dJ c s a w→code.wpIn (Fence.wide.inRound lp) n P (fun e a' w'=>∃s',dJ c s' a' w'∧Q e s') a w
def Fm (o:Oper):Bool:=match o.op with
 |.defer _=>false
 |_=>true
theorem ajV {ops:Array Oper} (h:ops.toList.all Fm=true):∀o∈ops,∀c,o.op≠.defer c:=by
 intro o ho c hc;have:=List.all_eq_true.1 h o (by simpa using ho);simp [Fm,hc] at this
def ajW (F:St→Prop):Exit→St→Prop
 |.normal,s=>F s
 |_,_=>False
theorem ajX {lim id:Nat} {ops:Array Oper} {draw:Bool} {s:St} {F:St→Prop} (cL:P.follows .mixedOrders=true) (hd:ops.toList.all Fm=true) (h:Go P ops draw F ops.toList s []):ll P lim (.region id ops draw) (ajW F) s:=by
 obtain⟨r,h1,h2,h3⟩:=h;intro lp n c ep a w hs;refine ajU (K:=fun s'=>∃s0,jw s0 s'∧F s0) (c:=c) (ajV hd) ?_ ?_ ?_ h1.symm cL (by simpa using h2) (iq.mono (fun s h=>⟨s,⟨rfl,fun _=>rfl,fun _=>rfl⟩,h⟩) _ (h3 0)) hs
 ·rintro⟨_,_,_,_,h⟩;exact h
 ·rintro s s' h ⟨s0,h0,hq⟩;exact⟨s0,⟨h0.n.trans h.n,fun t=>(h0.t t).trans (h.t t),fun b=>(h0.m b).trans (h.m b)⟩,hq⟩
 ·rintro s a w ⟨s0,h0,hq⟩ ⟨φ,R,dz⟩;exact⟨s0,⟨φ,R,h0.symm.HS dz⟩,hq⟩
structure gS (w:World) (φ:Ph) (R:Nat→Prop) (M M':Mem) (w':World) (φ':Ph) (R':Nat→Prop):Prop where
 mem:gX w' R' φ' M'
 gM:∀b x,φ' b=some x→∃y,lk b M'=some y
 fresh:∀b k h,lk b M'=some (some k)→φ' b=some (some h)→w.heap.size≤h.cY∨dj φ M h.cY
 gi:∀b k k',lk b M=some (some k)→lk b M'=some (some k')→φ' b=φ b
 R0:∀n,R n→R' n
 Rn:∀n,R' n→R n∨w.heap.size≤n∨dj φ M n
 Rb:∀n,R' n→n<w'.heap.size
 ext:Ext w w' (dj φ M)
def po (M M':Mem) (s:St):Prop:=∃ρ,pe ρ M'=true∧Ie ρ M M'=true∧eT ρ s.m M'
end Go.Ab
namespace Go.Ab
open Go.RowKit
variable{P:Program}
theorem gX.cells {w:World} {R:Nat→Prop} {φ:Ph} {M:Mem} (h:gX w R φ M) {n:Nat} (hn:dj φ M n):∃C t,w.heap[n]?=some (.cells C t (0,0)):=by
 obtain⟨b,k,x,h1,h2,rfl⟩:=hn;obtain⟨oh,h3,h4⟩:=h.rel b k h1;rw [h2] at h3;cases h3;obtain⟨_,_,_,_,C,hC,_⟩:=h4;exact⟨C,_,hC⟩
theorem gS.put {w w1 w2:World} {φ gH:Ph} {R R1:Nat→Prop} {M M1:Mem} (h:gS w φ R M M1 w1 gH R1) {l:Nat} (hl:w.heap.size≤l) (hR:¬R1 l) (ho:¬dj gH M1 l)
  (he:∀n,n≠l→w2.heap[n]?=w1.heap[n]?) (hs:w2.heap.size=w1.heap.size) (h1:w2.os=w1.os) (h2:w2.tape=w1.tape) (h3:w2.output=w1.output) (h4:w1.drawn≤w2.drawn:=by first|exact Nat.le_refl _|exact Nat.le_succ _):gS w φ R M M1 w2 gH R1:=by
 refine⟨⟨fun b k hb=>?_,h.mem.inj,h.mem.ga,h.mem.gl.mono (fun n hn=>he n (fun e=>hR (e▸hn))) (fun _ h=>h)⟩,h.gM,h.fresh,h.gi,h.R0,h.Rn,fun n hn=>by rw [hs];exact h.Rb n hn,⟨h1.trans h.ext.os,h2.trans h.ext.tape,h3.trans h.ext.output,Nat.le_trans h.ext.dr h4,by rw [hs];exact h.ext.size,fun i hi hg=>?_⟩⟩
 ·obtain⟨oh,h4,h5⟩:=h.mem.rel b k hb;refine⟨oh,h4,?_⟩;have oa:∀n,R1 n→w2.heap[n]?=w1.heap[n]?:=fun n hn=>he n (fun e=>hR (e▸hn))
  cases oh with
  |none=>exact h5
  |some x=>
   obtain⟨r1,r2,r3,r4,C,r5,r6,r7⟩:=h5;refine⟨r1,r2,r3,r4,C,?_,r6,fun i y hy=>⟨(r7 i y hy).1,fun j c' hj=>?_⟩⟩
   ·rw [he _ (fun e=>ho (e▸⟨b,k,x,hb,h4,rfl⟩))];exact r5
   ·obtain⟨u,hu,hr⟩:=(r7 i y hy).2 j c' hj;exact⟨u,hu,hr.mono oa (fun _ h=>h) (fun _ _ h=>h)⟩
 ·rw [he i (by omega)];exact h.ext.block i hi hg
theorem gS.name {w w1:World} {φ gH:Ph} {R R1:Nat→Prop} {M M1 N:Mem} {ρ:cZ} (h:gS w φ R M M1 w1 gH R1) (hi:iV ρ=true) (hk:(ρ.all fun p=>(lk p.1 N).isSome)=true) (hw:eT ρ M1 N) (yN:∀b k k',lk b M=some (some k)→lk b N=some (some k')→lk b ρ=some (some b)∧∃k1,lk b M1=some (some k1)):gS w φ R M N w1 (gH.via ρ) R1:=by
 obtain⟨m1,m2,m3⟩:=n5 h.mem hi hk hw;refine⟨m1,m2,fun b k x hb hx=>?_,fun b k k' h1 h2=>?_,h.R0,h.Rn,h.Rb,h.ext⟩
 ·obtain⟨b0,k0,_,e1,e2⟩:=m3 b k x hb hx;exact h.fresh b0 k0 x e1 e2
 ·obtain⟨e1,k1,e2⟩:=yN b k k' h1 h2;simp only [Ph.via,e1];exact h.gi b k k1 h1 e2
theorem gS.trans {w w1 w2:World} {φ gH jH:Ph} {R R1 R2:Nat→Prop} {M M1 M2:Mem} (h:gS w φ R M M1 w1 gH R1) (g:gS w1 gH R1 M1 M2 w2 jH R2) (yN:∀b k k',lk b M=some (some k)→lk b M2=some (some k')→∃k1,lk b M1=some (some k1)):gS w φ R M M2 w2 jH R2:=by
 have hb:∀n,dj gH M1 n→w.heap.size≤n∨dj φ M n:=by
  rintro n ⟨b,k,x,h1,h2,rfl⟩;exact h.fresh b k x h1 h2
 refine⟨g.mem,g.gM,fun b k x h1 h2=>?_,fun b k k' h1 h2=>?_,fun n hn=>g.R0 n (h.R0 n hn),fun n hn=>?_,g.Rb,h.ext.trans g.ext fun i hi hg=>?_⟩
 ·rcases g.fresh b k x h1 h2 with e|e
  ·exact .inl (Nat.le_trans h.ext.size e)
  ·exact hb _ e
 ·obtain⟨k1,e1⟩:=yN b k k' h1 h2;rw [g.gi b k1 k' e1 h2,h.gi b k k1 h1 e1]
 ·rcases g.Rn n hn with e|e|e
  ·exact h.Rn n e
  ·exact .inr (.inl (Nat.le_trans h.ext.size e))
  ·exact .inr (hb n e)
 ·rcases hb i hg with e|e
  ·omega
  ·exact e
theorem gS.refl {w:World} {φ:Ph} {R:Nat→Prop} {M:Mem} (h1:gX w R φ M) (h2:∀b x,φ b=some x→∃y,lk b M=some y) (h3:∀n,R n→n<w.heap.size):gS w φ R M M w φ R:=
 ⟨h1,h2,fun b k x hb hx=>.inr ⟨b,k,x,hb,hx,rfl⟩,fun _ _ _ _ _=>rfl,fun _ h=>h,fun _ h=>.inl h,h3,Ext.refl _ _⟩
end Go.Ab
namespace Go.Ab
open Go.RowKit
variable{P:Program}
theorem gS.grow {w w1 w2:World} {φ gH:Ph} {R R1:Nat→Prop} {M M1:Mem} (h:gS w φ R M M1 w1 gH R1) (hs:w1.heap.size≤w2.heap.size) (he:∀n,n<w1.heap.size→w2.heap[n]?=w1.heap[n]?) (h1:w2.os=w1.os) (h2:w2.tape=w1.tape) (h3:w2.output=w1.output) (h4:w1.drawn≤w2.drawn:=by first|exact Nat.le_refl _|exact Nat.le_succ _):gS w φ R M M1 w2 gH R1:=by
 refine⟨⟨fun b k hb=>?_,h.mem.inj,h.mem.ga,h.mem.gl.mono (fun n hn=>he n (h.Rb n hn)) (fun _ h=>h)⟩,h.gM,h.fresh,h.gi,h.R0,h.Rn,fun n hn=>Nat.lt_of_lt_of_le (h.Rb n hn) hs,⟨h1.trans h.ext.os,h2.trans h.ext.tape,h3.trans h.ext.output,Nat.le_trans h.ext.dr h4,Nat.le_trans h.ext.size hs,fun i hi hg=>?_⟩⟩
 ·obtain⟨oh,h4,h5⟩:=h.mem.rel b k hb;refine⟨oh,h4,h5.mono (fun n hn=>he n (h.Rb n hn)) (fun x hx=>he _ ?_) (fun _ _ h=>h)⟩;obtain⟨C,t,hC⟩:=h.mem.cells ⟨b,k,x,hb,by rw [h4,hx],rfl⟩;exact(Array.getElem?_eq_some_iff.1 hC).1
 ·rw [he i (Nat.lt_of_lt_of_le hi h.ext.size)];exact h.ext.block i hi hg
theorem gS.drew {w w1:World} {φ gH:Ph} {R R1:Nat→Prop} {M M1:Mem} (h:gS w φ R M M1 w1 gH R1):gS w φ R M M1 w1.drew gH R1:=h.grow (Nat.le_refl _) (fun _ _=>rfl) rfl rfl rfl
end Go.Ab
namespace Go.Ab
open Go.RowKit
variable{P:Program}
def Fo (P:Program) (Z:Ctx→Act→World→Prop) (lim:Nat) (code:Code) (Q:Exit→St→Prop) (s:St):Prop:=
 ∀(c:Ctx) (_:c.w0.heap.size=lim) (_:c.ds=[]) (a:Act) (w:World),dJ c s a w→code.wp P (fun e a' w'=>(∃s',dJ c s' a' w'∧Q e s')∨(e=.ret∧Z c a' w')) a w
variable{Z:Ctx→Act→World→Prop} {lim:Nat} {Q:Exit→St→Prop} {s:St}
theorem oq {x y:Code} (h:dW P lim x (iE (Fo P Z lim y Q) Q) s):Fo P Z lim (.seq x y) Q s:=by
 intro c ep rb a w hs;refine wp_seq (wp_mono (h c ep a w hs) ?_);rintro e a' w' ⟨s',cJ,hq⟩;cases e with
 |normal=>exact hq c ep rb a' w' cJ
 |_=>exact .inl ⟨s',cJ,hq⟩
def ZM (P:Program) (fn:Func) (r:AV) (c:Ctx) (a:Act) (w:World):Prop:=
 ∃D,a.defers=[{target:=.collected D,args:=#[]}]∧w.heap[D]?=some (.deferred (some []))∧
  ∃v φ' R',(results fn a.tmps).run P (w.putObj D (.deferred none))=.ok v (w.putObj D (.deferred none))∧Rel (w.putObj D (.deferred none)) R' φ' r v∧(∀n,c.R0 n→R' n)∧(∀n,R' n→c.R0 n∨c.w0.heap.size≤n∨c.G n)∧(∀n,R' n→n<w.heap.size)∧Ext c.w0 (w.putObj D (.deferred none)) c.G
theorem Jr {f n:Nat} {fn:Func} {body:Code} {args:List AV} {r:AV} {t:List (Nat×AV)} (hf:P.funcs[f]?=some fn) (hb:fn.body=some body) (hn:fn.ntmps=n) (hlen:Nat.ble args.length n=true) (ht:pV 0 args=some t)
  (h:∀lim,Fo P (ZM P fn r) lim body (pT (n9 P fn [] r [])) ⟨n,t,[]⟩):Holds P f args [] r []:=by
 intro w vs φ R n_ fW gG l8 fe;have hle:args.length≤n:=Nat.le_of_ble_eq_true hlen;refine callsIn_wide.1 (callsIn_of_wp_marks (n:=0) hf hb trivial (wpIn_wide.2 ?_) rfl)
 have kD:cW ⟨w,dj φ [],R,φ,[]⟩ φ R ⟨n,t,[]⟩ {tmps:=vs++Array.replicate (fn.ntmps -vs.size) undef,defers:=[]} w:=by
  refine⟨by simp [hn];omega,fun q av hq=>?_,gG,l8,fun b k x hb hx=>.inr ⟨b,k,x,hb,hx,rfl⟩,fun _ h=>h,fun _ h=>.inl h,fe,Ext.refl _ _,rfl,fun b _=>.inr rfl⟩;rw [←yl ht] at hq;obtain⟨_,h2⟩:=yc args 0 q av hq;simp only [Nat.sub_zero] at h2;have cn:q<vs.size:=by rw [←n_];exact(List.getElem?_eq_some_iff.1 h2).1
  have:=fW q av vs[q] h2 (by simp [cn]);simpa [Array.getD_eq_getD_getElem?,Array.getElem?_append_left cn,cn] using this
 refine wp_mono (h w.heap.size ⟨w,dj φ [],R,φ,[]⟩ rfl rfl _ w ⟨φ,R,kD⟩) ?_;have ot:∀{b:Nat} {k:Option fc},lk b ([]:Mem)=some k→False:=fun h=>by simp [lk] at h
 rintro e a' w' (⟨s',⟨gH,R1,dL⟩,hq⟩|⟨rfl,D,hd,hD,v,φ',R',z1,z2,z3,z4,z5,z6⟩)
 ·have hx:e=.normal∨e=.ret:=by
   cases e<;>first|exact .inl rfl|exact .inr rfl|exact hq.elim
  have mx:n9 P fn [] r [] s':=by rcases hx with rfl|rfl<;>exact hq
  obtain⟨gZ,ρ,f1,f2,f3,f4,f5⟩:=mx;obtain⟨v,g1,g2⟩:=yb dL f1;obtain⟨i1,i2⟩:=vC f2;obtain⟨m1,m2,m3⟩:=n5 dL.m i1 i2 f5
  have hL:∀{RR:Ending→World→Prop},RR (.returned v) w'→LeavesInM Fence.wide 0 P fn a'.tmps RR a'.defers .returning w':=by
   intro RR hr;rw [dL.d];exact⟨v,g1,hr⟩
  rcases hx with rfl|rfl;all_goals exact hL ⟨v,gH.via ρ,R1,rfl,mz dL.m (m:=[]) (fun _ h=>h) (fun b k h hb=>(ot hb).elim) g2 f4,m1,fun b k x hb _=>(ot hb).elim,fun b k k' hb _=>(ot hb).elim,dL.R0,dL.Rn,dL.Rb,dL.ext⟩
 ·have hL:∀{RR:Ending→World→Prop},LeavesInM Fence.wide 0 P fn a'.tmps RR [{target:=.collected D,args:=#[]}] .returning w'→LeavesInM Fence.wide 0 P fn a'.tmps RR a'.defers .returning w':=fun h=>by rw [hd];exact h
  have Js:tI (w'.putObj D (.deferred none)) R':=fun g cs hg=>by
   obtain⟨q1,q2⟩:=gG.gl g cs hg;refine⟨z3 g q1,fun k c hk=>?_⟩;obtain⟨v,e1,e2,e3⟩:=q2 k c hk;exact⟨v,e1,e2,(World.cell?_of_block (z6.block g (fe g q1) (fun⟨b,_,_,hb,_⟩=>ot hb))).trans e3⟩
  refine hL ⟨by simp,.inl ⟨D,_,rfl,run_takeDeferred hD,v,z1,v,φ',R',rfl,z2,⟨fun b k hb=>(ot hb).elim,fun b b' k k' x x' hb=>(ot hb).elim,fun b k x hb=>(ot hb).elim,Js⟩,fun b k x hb _=>(ot hb).elim,fun b k k' hb _=>(ot hb).elim,z3,z4,?_,z6⟩⟩;intro n hn;have:=z5 n hn;simpa [World.putObj] using this
end Go.Ab
namespace Go.Ab
open Go.RowKit
variable{P:Program} {Z:Ctx→Act→World→Prop} {lim:Nat} {Q:Exit→St→Prop}
def Wj (P:Program) (Z:Ctx→Act→World→Prop) (lim:Nat) (y z:Code) (Q:Exit→St→Prop) (s:St):Prop:=
 ∀(c:Ctx) (_:c.w0.heap.size=lim) (_:c.ds=[]) (a:Act) (w:World),dJ c s a w→y.wp P (Exit.then (z.wp P fun e a' w'=>(∃s',dJ c s' a' w'∧Q e s')∨(e=.ret∧Z c a' w')) fun e a' w'=>(∃s',dJ c s' a' w'∧Q e s')∨(e=.ret∧Z c a' w')) a w
theorem Jt {x y z:Code} {s:St} (h:dW P lim x (iE (Wj P Z lim y z Q) Q) s):Fo P Z lim (.seq (.seq x y) z) Q s:=by
 intro c ep rb a w hs;refine wp_seq (wp_seq (wp_mono (h c ep a w hs) ?_));rintro e a' w' ⟨s',cJ,hq⟩;cases e with
 |normal=>exact hq c ep rb a' w' cJ
 |_=>exact .inl ⟨s',cJ,hq⟩
end Go.Ab
namespace Go.Ab
open Go.RowKit
variable{P:Program}
theorem Ju {f:Nat} (h:bI P f):∀args w,(callFunc f args).run P w=.ok (.enter f args) w:=by
 obtain⟨fn,h1,h2,h3⟩:=h;intro args w;have e1:¬fn.name= "runtime.NumGoroutine":=by simpa using h2
 have e2:¬fn.body=none:=by
  intro h;rw [h] at h3;cases h3
 simp [callFunc,h1,e1,e2]
end Go.Ab
namespace Go.Ab
open Go.RowKit
variable{P:Program}
theorem sq {ops:Array Oper} {K:Act→World→Prop} {Q:Exit→Act→World→Prop} {n:Nat} {l2:List Nat} (h2:∀a w,K a w→wpOpsIn Fence.wide n P ops Q l2 a w):∀(l:List Nat) (a:Act) (w:World),wpOps P ops (fun e a w=>e=.normal∧K a w) l a w→wpOpsIn Fence.wide n P ops Q (l++l2) a w
 |[],a,w,h=>h2 a w h.2
 |i::l,a,w,h=>by
  have hQ:¬LetsOut (fun(e:Exit) (a:Act) (w:World)=>e=.normal∧K a w):=by
   rintro⟨_,_,h,_⟩;cases h
  simp only [wpOps] at h;simp only [List.cons_append,wpOpsIn];cases ho:ops[i]?with
  |none=>
   simp only [ho] at h⊢;exact sq h2 l a w h
  |some o=>
   simp only [ho] at h⊢;by_cases hw:Region.wanted o (yielded ops a.tmps)=true
   ·simp only [hw,if_true] at h⊢;rcases h with h|⟨_,h⟩
    ·refine⟨fun _ _=>trivial,?_⟩;rw [show Fence.wide.round=none from rfl,Oper.semAt_none]
     unfold Oper.wp at h;generalize(execOp a.eval o).run P w=r at h;cases r with
     |ok x w'=>
      cases x with
      |value v=>exact sq h2 l _ _ h
      |skip=>exact sq h2 l _ _ h
      |defer d=>exact sq h2 l _ _ h
      |enter f args=>
       refine⟨fun e=>by simp [Fence.wide] at e,?_⟩;refine callsIn_wide.2 (Calls.mono h ?_);intro e BK hq;cases e with
       |returned v=>exact sq h2 l _ _ hq
       |panicked c=>exact absurd hq.1 (by simp)
       |outgrown=>exact absurd hq hQ
      |row r args=>
       refine⟨fun e=>by simp [Fence.wide] at e,?_⟩;intro c cs _;obtain⟨v,BK,hr,hs⟩:=h c cs;exact⟨v,BK,sq h2 l _ _ hr,stepsIn_wide.2 hs⟩
      |round _ _ _ _ _=>exact h.elim
      |_=>exact h.elim
     |halt x w'=>
      cases x with
      |panic v=>exact absurd h.1 (by simp)
      |_=>exact h.elim
    ·exact absurd h hQ
   ·simp only [hw,if_false,Bool.false_eq_true] at h⊢;exact⟨fun _ _=>trivial,sq h2 l _ _ h⟩
def re (ops:Array Oper) (k:Nat):List Nat:=(List.range ops.size).drop k
theorem Jv {ops:Array Oper} {k j:Nat} (h:k+j≤ops.size):re ops k=(List.range j).map (k+·)++re ops (k+j):=by
 unfold re;apply List.ext_getElem?;intro i;by_cases hi:i<j
 ·rw [List.getElem?_append_left (by simpa using hi),List.getElem?_drop,List.getElem?_map,List.getElem?_range (by omega),List.getElem?_range hi];rfl
 ·rw [List.getElem?_append_right (by simpa using hi),List.getElem?_drop,List.getElem?_drop];simp only [List.length_map,List.length_range];congr 1;omega
theorem Wk {ops:Array Oper} {k:Nat} {l:List Oper} {s:St} {F:St→Prop} {acc:List (Option ec)} (hl:(ops.toList.drop k).take l.length=l) (h:Go P ops false F l s acc) {c:Ctx} {a:Act} {w:World} (hs:dJ c s a w):
  wpOps P ops (fun e a' w'=>e=.normal∧∃s',dJ c s' a' w'∧F s') ((List.range l.length).map (k+·)) a w:=by
 obtain⟨r,h1,_,h3⟩:=h;obtain⟨i1,i2⟩:=vu l r k h1.symm
 have vx:∀x∈items k l r,ops[x.i]?=some x.o:=fun x hx=>by
  obtain⟨q1,q2⟩:=i2 x hx;rw [←hl] at q2
  have cn:x.i -k<l.length:=by
   rcases Nat.lt_or_ge (x.i -k) l.length with z|z
   ·exact z
   ·rw [List.getElem?_eq_none (by rw [List.length_take];omega)] at q2;cases q2
  rw [List.getElem?_take_of_lt cn,List.getElem?_drop,show k+(x.i -k)=x.i by omega] at q2
  simpa using q2
 have run:=Ek (Q:=fun e a' w'=>e=.normal∧∃s',dJ c s' a' w'∧F s') (fun s a w hk hs=>⟨rfl,s,hs,hk⟩) _ _ a w vx (h3 k) hs;rw [i1] at run;exact run
def Ctx.pq (c:Ctx) (l:Nat) (d:Loop):Ctx:={c with w0:=c.w0.putObj l (.loop d)}
structure BL (c:Ctx) (l:Nat) (rec:Loop):Prop where
 lp:c.w0.heap[l]?=some (.loop rec)
 R:¬c.R0 l
 G:¬c.G l
 Rn:∀n,c.R0 n→n<c.w0.heap.size∧¬c.G n
def ou (P:Program) (n:Nat) (c:Ctx) (l:Nat) (code:Code) (Q:Exit→St→Prop) (Z:Loop→Exit→St→Prop) (s:St):Prop:=
 ∀(a:Act) (w:World),dJ c s a w→code.wpIn Fence.wide n P (fun e a' w'=>(∃s',dJ c s' a' w'∧Q e s')∨(∃d s',dJ (c.pq l d) s' a' w'∧Z d e s')) a w
section
variable{n l:Nat} {c:Ctx} {rec:Loop} {Q:Exit→St→Prop} {Z:Loop→Exit→St→Prop} {s:St}
theorem iO {code:Code} (h:dW P c.w0.heap.size code Q s):ou P n c l code Q Z s:=fun a w hs=>wpIn_wide.2 (wp_mono (h c rfl a w hs) fun _ _ _ h=>.inl h)
theorem Wl {d:Loop}:(c.pq l d).w0.heap.size=c.w0.heap.size:=by simp [Ctx.pq,World.putObj]
theorem jA {x y:Code} (h:ou P n c l x (iE (ou P n c l y Q Z) Q) (fun d=>iE (dW P c.w0.heap.size y (Z d)) (Z d)) s):ou P n c l (.seq x y) Q Z s:=by
 intro a w hs;refine wpIn_seq (wpIn_mono (h a w hs) ?_);rintro e a' w' (⟨s',cJ,hq⟩|⟨d,s',cJ,hq⟩)
 ·cases e with
  |normal=>exact hq a' w' cJ
  |_=>exact .inl ⟨s',cJ,hq⟩
 ·cases e with
  |normal=>exact wpIn_wide.2 (wp_mono (hq (c.pq l d) Wl a' w' cJ) fun _ _ _ h=>.inr ⟨d,h⟩)
  |_=>exact .inr ⟨d,s',cJ,hq⟩
theorem yO {id:Nat} {x:Code} (h:ou P n c l x (pf id Q) (fun d=>pf id (Z d)) s):ou P n c l (.block id x) Q Z s:=by
 intro a w hs;refine wpIn_block (wpIn_mono (h a w hs) ?_);rintro e a' w' (⟨s',cJ,hq⟩|⟨d,s',cJ,hq⟩)
 ·cases e with
  |exit x8=>
   simp only [pf] at hq;simp only [Exit.inBlock];split at hq
   ·rw [if_pos (by assumption)];exact .inl ⟨s',cJ,hq⟩
   ·rw [if_neg (by assumption)];exact .inl ⟨s',cJ,hq⟩
  |_=>exact .inl ⟨s',cJ,hq⟩
 ·cases e with
  |exit x8=>
   simp only [pf] at hq;simp only [Exit.inBlock];split at hq
   ·rw [if_pos (by assumption)];exact .inr ⟨d,s',cJ,hq⟩
   ·rw [if_neg (by assumption)];exact .inr ⟨d,s',cJ,hq⟩
  |_=>exact .inr ⟨d,s',cJ,hq⟩
theorem ajY {X:Type} {body:Code} (st:X→St) (μ:X→Nat) (x0:X) (h0:∃ρ,tV ρ s (st x0)) (step:∀x,ou P n c l body (iE (fun s'=>∃x' ρ,tV ρ s' (st x')∧μ x'<μ x) Q) (fun d=>iE (fun _=>False) (Z d)) (st x)):ou P n c l (.loop body) Q Z s:=by
 intro a w hs
 have key:∀(k:Nat) (x:X) (a:Act) (w:World),μ x<k→dJ c (st x) a w→Code.roundsIn Fence.wide n P body (fun e a' w'=>(∃s',dJ c s' a' w'∧Q e s')∨(∃d s',dJ (c.pq l d) s' a' w'∧Z d e s')) k a w:=by
  intro k
  induction k with
  |zero=>intro x a w hk;omega
  |succ k ih=>
   intro x a w hk hs;refine wpIn_mono (step x a w hs) ?_;rintro e a' w' (⟨s',cJ,hq⟩|⟨d,s',cJ,hq⟩)
   ·cases e with
    |normal=>
     obtain⟨x',ρ,hw,cn⟩:=hq;exact ih x' a' w' (by omega) (cJ.weaken hw)
    |_=>exact .inl ⟨s',cJ,hq⟩
   ·cases e with
    |normal=>exact hq.elim
    |_=>exact .inr ⟨d,s',cJ,hq⟩
 obtain⟨ρ,h0⟩:=h0;exact wpIn_loop_rounds _ (key (μ x0+1) x0 a w (by omega) (hs.weaken h0))
structure rf (c:Ctx) (l:Nat) (rec:Loop) (args:List AV) (M:Mem) (w:World) (vs:Array Value) (φ:Ph) (R:Nat→Prop):Prop where
 len:args.length=vs.size
 rel:∀(i:Nat) (c:AV) (v:Value),args[i]?=some c→vs[i]?=some v→Rel w R φ c v
 mem:gX w R φ M
 gM:∀b x,φ b=some x→∃y,lk b M=some y
 Rb:∀n,R n→n<w.heap.size
 lp:w.heap[l]?=some (.loop rec)
 nR:¬R l
 home:∀b k,b<1100→lk b M=some (some k)→φ b=c.xS b
 R0:∀n,c.R0 n→R n
 same:∀n,c.R0 n→w.heap[n]?=c.w0.heap[n]?
def Wn (P:Program) (n:Nat) (c:Ctx) (l:Nat) (rec:Loop) (args:List AV) (M M':Mem):Prop:=
 ∀(w:World) (vs:Array Value) (φ:Ph) (R:Nat→Prop),rf c l rec args M w vs φ R→YieldAt Fence.wide n P l vs w fun e w'=>e=.returned (.bool true)∧∃φ' R',Es w φ R M (.sc (.bool true)) M' w' (.bool true) φ' R'
def Wo (P:Program) (n:Nat) (c:Ctx) (l:Nat) (rec d:Loop) (args:List AV) (M M':Mem):Prop:=
 ∀(w:World) (vs:Array Value) (φ:Ph) (R:Nat→Prop),rf c l rec args M w vs φ R→YieldAt Fence.wide n P l vs w fun e w'=>e=.returned (.bool false)∧∃φ' R',Es (w.putObj l (.loop d)) φ R M (.sc (.bool false)) M' w' (.bool false) φ' R'
def uu (P:Program) (n:Nat) (c:Ctx) (l:Nat) (ops:Array Oper) (Q:St→Prop) (Z:Loop→St→Prop) (k:Nat) (s:St):Prop:=
 ∀(a:Act) (w:World),dJ c s a w→wpOpsIn Fence.wide n P ops (fun e a' w'=>(∃s',dJ c s' a' w'∧e=.normal∧Q s')∨(∃d s',dJ (c.pq l d) s' a' w'∧e=.normal∧Z d s')) (re ops k) a w
theorem Jw {id:Nat} {ops:Array Oper} (h:uu P n c l ops (Q .normal) (fun d=>Z d .normal) 0 s):ou P n c l (.region id ops false) Q Z s:=by
 intro a w hs;refine wpIn_mono (wpIn_region (h a w hs)) ?_;rintro e a' w' (⟨s',cJ,rfl,hq⟩|⟨d,s',cJ,rfl,hq⟩)
 ·exact .inl ⟨s',cJ,hq⟩
 ·exact .inr ⟨d,s',cJ,hq⟩
variable{ops:Array Oper} {F:St→Prop} {W:Loop→St→Prop} {k:Nat}
theorem Jx (hk:ops.size=k) (h:F s):uu P n c l ops F W k s:=by
 intro a w hs;subst hk;unfold re;rw [List.drop_eq_nil_of_le (by simp)];exact .inl ⟨s,hs,rfl,h⟩
theorem yP (j:Nat) (hj:Nat.ble (k+j) ops.size=true) {acc:List (Option ec)} (h:Go P ops false (uu P n c l ops F W (k+j)) ((ops.toList.drop k).take j) s acc):uu P n c l ops F W k s:=by
 intro a w hs;have hle:k+j≤ops.size:=Nat.le_of_ble_eq_true hj;have hlen:((ops.toList.drop k).take j).length=j:=by rw [List.length_take,List.length_drop];simp;omega
 rw [Jv hle];have:=Wk (k:=k) (by rw [hlen]) h hs;rw [hlen] at this;refine sq ?_ _ a w this;rintro a w ⟨s',cJ,hq⟩;exact hq a w cJ
theorem cW.pq {φ:Ph} {R:Nat→Prop} {s:St} {a:Act} {w:World} (h:cW c φ R s a w) (hI:BL c l rec) (d:Loop):¬R l∧w.heap[l]?=some (.loop rec)∧cW (c.pq l d) φ R s a (w.putObj l (.loop d)):=by
 obtain⟨h1,h2,h3,h4⟩:=hI;have cn:l<c.w0.heap.size:=(Array.getElem?_eq_some_iff.1 h1).1
 have hR:¬R l:=fun q=>by
  rcases h.Rn l q with q|q|q
  ·exact h2 q
  ·omega
  ·exact h3 q
 have hw:w.heap[l]?=some (.loop rec):=(h.ext.block l cn h3).trans h1;have ajZ:l<w.heap.size:=(Array.getElem?_eq_some_iff.1 hw).1;have he:∀i,i≠l→(w.putObj l (.loop d)).heap[i]?=w.heap[i]?:=fun i hi=>World.putObj_heap_other hi
 have ed:(w.putObj l (.loop d)).heap.size=w.heap.size:=by simp [World.putObj]
 have yQ:(c.pq l d).w0.heap.size=c.w0.heap.size:=by simp [Ctx.pq,World.putObj]
 have oa:∀i,R i→(w.putObj l (.loop d)).heap[i]?=w.heap[i]?:=fun i hi=>he i fun e=>hR (e▸hi)
 refine⟨hR,hw,h.n,fun t av ht=>(h.t t av ht).mono oa (fun _ h=>h) (fun _ _ h=>h),⟨fun b k hb=>?_,h.m.inj,h.m.ga,h.m.gl.mono oa (fun _ h=>h)⟩,h.gM,fun b k x hb hx=>?_,h.R0,fun i hi=>?_,fun i hi=>by rw [ed];exact h.Rb i hi,⟨h.ext.os,h.ext.tape,h.ext.output,h.ext.dr,by rw [ed,yQ];exact h.ext.size,fun i hi hg=>?_⟩,h.d,h.gi⟩
 ·obtain⟨oh,q1,q2⟩:=h.m.rel b k hb;refine⟨oh,q1,q2.mono oa (fun x hx=>he _ fun e=>?_) (fun _ _ h=>h)⟩;subst hx;rcases h.fresh b k x hb q1 with z|z
  ·rw [e] at z;omega
  ·rw [e] at z;exact h3 z
 ·rw [yQ];exact h.fresh b k x hb hx
 ·rw [yQ];exact h.Rn i hi
 ·rw [yQ] at hi;by_cases e:i=l
  ·subst e;rw [World.putObj_heap_same ajZ];exact(World.putObj_heap_same cn).symm
  ·rw [he i e];refine(h.ext.block i hi hg).trans ?_;exact(World.putObj_heap_other e).symm
theorem Wp {o:Oper} {fo:Operand} {xs:Array Operand} {gO:Array TypeId} {args:List AV} {M M':Mem} {ρ σ:cZ} {Wm:Mem} {L:Mem} {b:Bool} (ho:o.op=pg fo xs gO) (Fp:o.guard=none) (hk:ops[k]?=some o) (mC:s.ev fo=.sc (.func (.yield l) #[] #[]))
  (hL:mA ρ s.m L) (fW:gP L ρ (xs.toList.map s.ev) args) (hi:iV ρ=true) (tZ:(ρ.all fun p=>(lk p.1 M).isSome)=true) (hM:eT ρ s.m M) (ni:iV σ=true) (pU:(σ.all fun p=>(lk p.1 Wm).isSome)=true) (hW:eT σ M' Wm) (n4:vE ρ M σ Wm=true) (mB:L≠[]→qT Wm) (jE:mD s (kM ρ Wm)=true)
  (hI:BL c l rec) (Fq:(M.all fun p=>Nat.ble 1000 p.1&&(Nat.ble 1100 p.1||match lk p.1 ρ with|some (some q)=>Nat.beq q p.1|_=>false))=true) {d:Loop} (hY:if b=true then Wn P (n -1) c l rec args M M' else Wo P (n -1) c l rec d args M M')
  (next:if b=true then uu P n c l ops F W (k+1) (s.app o.dst ⟨.sc (.bool true),Wm++lG (et ρ),et ρ++L.map (·.1),kM ρ Wm⟩) else∃acc,Go P ops false (W d) (ops.toList.drop (k+1)) (s.app o.dst ⟨.sc (.bool false),Wm++lG (et ρ),et ρ++L.map (·.1),kM ρ Wm⟩) acc):uu P n c l ops F W k s:=by
 intro a w hs;obtain⟨φ,R,dz⟩:=hs;obtain⟨hR,Ft,dL⟩:=dz.pq hI d;obtain⟨h1,h2,h3,h4⟩:=hI;have aso:k<ops.size:=(Array.getElem?_eq_some_iff.1 hk).1
 have hfk:re ops k=k::re ops (k+1):=by
  have:=Jv (ops:=ops) (k:=k) (j:=1) (by omega);simpa using this
 rw [hfk];simp only [wpOpsIn,hk];have aj1:Region.wanted o (yielded ops a.tmps)=true:=by simp [Region.wanted,Fp]
 rw [if_pos aj1];refine⟨fun _ _=>trivial,?_⟩;rw [show Fence.wide.round=none from rfl,Oper.semAt_none]
 have hfv:a.eval fo=.func (.yield l) #[] #[]:=by
  have:=dz.ev fo;rw [mC] at this;exact this.gN
 have vG:∀(i:Nat) (x:AV) (u:Value),(xs.toList.map s.ev)[i]?=some x→(xs.map a.eval)[i]?=some u→Rel w R φ x u:=by
  intro i x u hx hu;rw [List.getElem?_map,Array.getElem?_toList] at hx;rw [Array.getElem?_map] at hu;cases hy:xs[i]?with
  |none=>simp [hy] at hx
  |some y=>
   simp [hy] at hx hu;subst hx;subst hu;exact dz.ev y
 have Be:¬(R l∨dj φ L l):=by
  rintro(q|⟨b,k,x,e1,e2,e3⟩)
  ·exact hR q
  ·obtain⟨k',z1,z2,_⟩:=yd hL b _ (gI e1);rcases dz.fresh b k' x z2 e2 with z|z
   ·have cn:l<c.w0.heap.size:=(Array.getElem?_eq_some_iff.1 h1).1;omega
   ·exact h3 (e3▸z)
 have E1:∀n,c.R0 n→w.heap[n]?=c.w0.heap[n]?:=fun n hn=>dz.ext.block n (h4 n hn).1 (h4 n hn).2
 have Wq:gX w (fun n=>R n∨dj φ L n) (φ.via ρ) M→∀b k,b<1100→lk b M=some (some k)→φ.via ρ b=c.xS b:=by
  intro hm b k xY hb;have hq:=List.all_eq_true.1 Fq _ (gI hb);rw [Bool.and_eq_true,Bool.or_eq_true] at hq;have hq:Nat.ble 1000 b=true∧(match lk b ρ with|some (some q)=>Nat.beq q b|_=>false)=true:=⟨hq.1,hq.2.resolve_left (by simp;omega)⟩
  obtain⟨oh,Jy,_⟩:=hm.rel b k hb;have nV:1000≤b:=Nat.le_of_ble_eq_true hq.1;cases hz:lk b ρ with
  |none=>simp [hz] at hq
  |some z=>
   cases z with
   |none=>simp [hz] at hq
   |some q=>
    simp only [hz] at hq;have Bb:=Nat.eq_of_beq_eq_true hq.2;subst Bb;simp only [Ph.via,hz] at Jy⊢;rcases dz.gi q nV with e|e
    ·rw [e] at Jy;cases Jy
    ·exact e
 have vF:(xs.toList.map s.ev).length=(xs.map a.eval).size:=by simp
 have gn:∀{fn:FuncId} {tmps:Array Value} {assign body:Code},(Instr.yield l (xs.map a.eval)).run P w=.ok (.round l fn tmps assign body) w→(execOp a.eval o).run P w=.ok (.round l fn tmps assign body) w:=by
  intro fn tmps assign body hy;simp [execOp,ho,pg,resolve,hfv,Deferred.ofValue,invoke,hy]
 cases b with
 |true=>
  rw [if_pos rfl] at hY next
  obtain⟨⟨q1,q2,q3,q4,q5⟩,q6⟩:=Et (s:=s) (s':=s) (M':=M') (r:=.sc (.bool true)) (v:=.sc (.bool true)) hL fW hi tZ hM ni pU hW (by simp [bX,tU]) n4 (fun h=>⟨rfl,mB h⟩) (fun _ _=>rfl) (Bl jE) dz vF vG;have x5:rf c l rec args M w (xs.map a.eval) (φ.via ρ) (fun n=>R n∨dj φ L n):=⟨q1,q2,q3,q4,q5,Ft,Be,Wq q3,fun n h=>.inl (dz.R0 n h),E1⟩;obtain⟨fn,tmps,assign,body,Jz,t_⟩:=hY w (xs.map a.eval) _ _ x5;rw [gn Jz];refine⟨fun e=>by simp [Fence.wide] at e,t_.mono ?_⟩;rintro e w' ⟨rfl,φ',R',hp⟩;exact next _ _ (q6 o.dst w' _ φ' R' hp)
 |false=>
  rw [if_neg (by simp)] at hY next
  obtain⟨⟨q1,q2,q3,q4,q5⟩,_⟩:=Et (s:=s) (s':=s) (M':=M') (r:=.sc (.bool false)) (v:=.sc (.bool false)) hL fW hi tZ hM ni pU hW (by simp [bX,tU]) n4 (fun h=>⟨rfl,mB h⟩) (fun _ _=>rfl) (Bl jE) dz vF vG;have aj3:∀(i:Nat) (x:AV) (u:Value),(xs.toList.map s.ev)[i]?=some x→(xs.map a.eval)[i]?=some u→Rel (w.putObj l (.loop d)) R φ x u:=fun i x u hx hu=>(vG i x u hx hu).mono (fun k hk=>World.putObj_heap_other fun e=>hR (e▸hk)) (fun _ h=>h) (fun _ _ h=>h)
  obtain⟨_,q6⟩:=Et (s:=s) (s':=s) (M':=M') (r:=.sc (.bool false)) (v:=.sc (.bool false)) hL fW hi tZ hM ni pU hW (by simp [bX,tU]) n4 (fun h=>⟨rfl,mB h⟩) (fun _ _=>rfl) (Bl jE) dL vF aj3;have x5:rf c l rec args M w (xs.map a.eval) (φ.via ρ) (fun n=>R n∨dj φ L n):=⟨q1,q2,q3,q4,q5,Ft,Be,Wq q3,fun n h=>.inl (dz.R0 n h),E1⟩;obtain⟨fn,tmps,assign,body,Jz,t_⟩:=hY w (xs.map a.eval) _ _ x5;rw [gn Jz];refine⟨fun e=>by simp [Fence.wide] at e,t_.mono ?_⟩;rintro e w' ⟨rfl,φ',R',hp⟩;have kP:=q6 o.dst w' _ φ' R' hp;obtain⟨acc,hgo⟩:=next
  have hl:(ops.toList.drop (k+1)).take (ops.toList.drop (k+1)).length=ops.toList.drop (k+1):=List.take_length;have Ba:=Wk hl hgo kP
  have aj5:re ops (k+1)=(List.range (ops.toList.drop (k+1)).length).map (k+1+·)++[]:=by
   have:=Jv (ops:=ops) (k:=k+1) (j:=ops.size -(k+1)) (by omega);rw [this];congr 1
   ·simp
   ·unfold re;exact List.drop_eq_nil_of_le (by simp;omega)
  show wpOpsIn Fence.wide n P ops _ (re ops (k+1)) _ w'
  rw [aj5];refine sq ?_ _ _ w' Ba;rintro a2 w2 ⟨s2,gT,hq⟩;exact .inr ⟨d,s2,gT,rfl,hq⟩
end
end Go.Ab
namespace Go.Ab
open Go.RowKit
variable{P:Program}
theorem JA {w:World} {φ:Ph} {R:Nat→Prop} {M M':Mem} {s':St} {a':Act} {w':World} (hM:tY M=true) (hs:dJ ⟨w,dj φ M,R,φ,[]⟩ s' a' w') (h:po M M' s'):∃φ' R',gS w φ R M M' w' φ' R':=by
 obtain⟨gH,R1,dL⟩:=hs;obtain⟨ρ,f2,f3,f5⟩:=h;obtain⟨i1,i2⟩:=vC f2;obtain⟨m1,m2,m3⟩:=n5 dL.m i1 i2 f5;refine⟨gH.via ρ,R1,m1,m2,fun b k x hb hx=>?_,fun b k k' h1 h2=>?_,dL.R0,dL.Rn,dL.Rb,dL.ext⟩
 ·obtain⟨b0,k0,_,e1,e2⟩:=m3 b k x hb hx;exact dL.fresh b0 k0 x e1 e2
 ·have hk:=List.all_eq_true.1 f3 _ (gI h1);simp only [h2] at hk;cases hq:lk b ρ with
  |none=>simp [hq] at hk
  |some o=>
   cases o with
   |none=>simp [hq] at hk
   |some q=>
    simp only [hq] at hk;have Bb:=Nat.eq_of_beq_eq_true hk;rw [Bb] at hq;have nV:1000≤b:=Nat.le_of_ble_eq_true (by simpa using List.all_eq_true.1 hM _ (gI h1));have Bc:=x7 f5 b k' (gI h2);simp only [hq] at Bc;obtain⟨k0,rZ,_⟩:=Bc;obtain⟨oh,ho,_⟩:=dL.m.rel b k0 rZ
    have:gH b=φ b:=by
     rcases dL.gi b nV with h|h
     ·rw [h] at ho;cases ho
     ·exact h
    simp [Ph.via,hq,this]
theorem aj6 {f nn n l:Nat} {fn:Func} {body:Code} {args:List AV} {t:List (Nat×AV)} {M:Mem} {rec:Loop} (hf:P.funcs[f]?=some fn) (hb:fn.body=some body) (hn:fn.ntmps=nn) (hlen:Nat.ble args.length nn=true) (hM:tY M=true) (ht:pV 0 args=some t) (hr:fn.results=#[])
  {w:World} {vs:Array Value} {φ:Ph} {R:Nat→Prop} (n_:args.length=vs.size) (fW:∀(i:Nat) (c:AV) (v:Value),args[i]?=some c→vs[i]?=some v→Rel w R φ c v) (gG:gX w R φ M) (l8:∀b x,φ b=some x→∃y,lk b M=some y) (fe:∀n,R n→n<w.heap.size)
  {FX:Mem→Prop} {FZ:Loop→Mem→Prop} (h:ou P n ⟨w,dj φ M,R,φ,[]⟩ l body (pT fun s=>∃M',FX M'∧po M M' s) (fun d=>pT fun s=>∃M',FZ d M'∧po M M' s) ⟨nn,t,M⟩):
  CallsIn Fence.wide n P f vs w fun e w'=>(∃v,e=.returned v)∧((∃M' φ' R',FX M'∧gS w φ R M M' w' φ' R')∨(∃d M' φ' R',FZ d M'∧gS (w.putObj l (.loop d)) φ R M M' w' φ' R')):=by
 have hle:args.length≤nn:=Nat.le_of_ble_eq_true hlen
 have kD:cW ⟨w,dj φ M,R,φ,[]⟩ φ R ⟨nn,t,M⟩ {tmps:=vs++Array.replicate (fn.ntmps -vs.size) undef,defers:=[]} w:=by
  refine⟨by simp [hn];omega,fun q av hq=>?_,gG,l8,fun b k x hb hx=>.inr ⟨b,k,x,hb,hx,rfl⟩,fun _ h=>h,fun _ h=>.inl h,fe,Ext.refl _ _,rfl,fun b _=>.inr rfl⟩;rw [←yl ht] at hq;obtain⟨_,h2⟩:=yc args 0 q av hq;simp only [Nat.sub_zero] at h2;have cn:q<vs.size:=by rw [←n_];exact(List.getElem?_eq_some_iff.1 h2).1
  have:=fW q av vs[q] h2 (by simp [cn]);simpa [Array.getD_eq_getD_getElem?,Array.getElem?_append_left cn,cn] using this
 refine callsIn_of_wp hf hb trivial (wpIn_mono (h _ w ⟨φ,R,kD⟩) ?_) rfl
 have sg:∀{c:Ctx} {s':St} {a':Act} {w':World},dJ c s' a' w'→c.ds=[]→a'.defers=[]∧∃v,(results fn a'.tmps).run P w'=.ok v w':=by
  rintro c s' a' w' ⟨gH,R1,dL⟩ rb;obtain⟨v,g1,_⟩:=yb (P:=P) (fn:=fn) dL (vs:=[]) (by rw [hr];trivial);exact⟨dL.d.trans rb,v,g1⟩
 rintro e a' w' (⟨s',cJ,hq⟩|⟨d,s',cJ,hq⟩)
 ·have hx:e=.normal∨e=.ret:=by
   cases e<;>first|exact .inl rfl|exact .inr rfl|exact hq.elim
  have mx:∃M',FX M'∧po M M' s':=by rcases hx with rfl|rfl<;>exact hq
  obtain⟨M',hF,wg⟩:=mx;obtain⟨φ',R',hp⟩:=JA hM cJ wg;obtain⟨hd,v,hv⟩:=sg cJ rfl;rcases hx with rfl|rfl;all_goals exact⟨hd,v,hv,⟨v,rfl⟩,.inl ⟨M',φ',R',hF,hp⟩⟩
 ·have hx:e=.normal∨e=.ret:=by
   cases e<;>first|exact .inl rfl|exact .inr rfl|exact hq.elim
  have mx:∃M',FZ d M'∧po M M' s':=by rcases hx with rfl|rfl<;>exact hq
  obtain⟨M',hF,wg⟩:=mx;obtain⟨φ',R',hp⟩:=JA (w:=w.putObj l (.loop d)) hM cJ wg;obtain⟨hd,v,hv⟩:=sg cJ rfl;rcases hx with rfl|rfl;all_goals exact⟨hd,v,hv,⟨v,rfl⟩,.inr ⟨d,M',φ',R',hF,hp⟩⟩
def JB (F:St→Prop):Exit→St→Prop
 |.ret,s=>F s
 |_,_=>False
def pw (rec:Loop):Loop:={rec with state:=.done,pending:=some .ret}
end Go.Ab
namespace Go.Ab
open Go.RowKit
variable{P:Program}
theorem aj7 {g:Operand} {ps:Array Tmp} {assign body:Code} {Q:Exit→Act→World→Prop} {a:Act} {w:World} {n gf:Nat} {lb:Array Value} {φ:Ph} {R:Nat→Prop} {M:Mem} {FX FZ:Mem→Prop}
  (hg:a.eval g=.func (.func gf) #[] lb) (eg:∀args w,(callFunc gf args).run P w=.ok (.enter gf args) w) (gG:gX w R φ M) (l8:∀b x,φ b=some x→∃y,lk b M=some y) (fe:∀n,R n→n<w.heap.size)
  (EY:∀(W1:World) (rec:Loop) (fn:FuncId),rec={state:=.ready,pending:=none,fn,tmps:=a.tmps,params:=ps,assign,body,defers:=w.heap.size}→W1.heap[w.heap.size+1]?=some (.loop rec)→gS w φ R M M W1 φ R→¬R (w.heap.size+1)→
   CallsIn Fence.wide (n -1) P gf (#[.func (.yield (w.heap.size+1)) #[] #[]]++lb) W1 fun e w'=>(∃v,e=.returned v)∧((∃M' φ' R',FX M'∧gS W1 φ R M M' w' φ' R')∨(∃M' φ' R',FZ M'∧gS (W1.putObj (w.heap.size+1) (.loop (pw rec))) φ R M M' w' φ' R')))
  (JC:∀(D:Nat) (W:World) (M':Mem) (φ':Ph) (R':Nat→Prop),FX M'→gS w φ R M M' W φ' R'→w.heap.size≤D→¬R' D→W.heap[D]?=some (.deferred (some []))→Q .normal {a with defers:={target:=.collected D,args:=#[]}::a.defers} W)
  (JD:∀(D:Nat) (W:World) (M':Mem) (φ':Ph) (R':Nat→Prop),FZ M'→gS w φ R M M' W φ' R'→w.heap.size≤D→¬R' D→W.heap[D]?=some (.deferred (some []))→Q .ret {a with defers:={target:=.collected D,args:=#[]}::a.defers} W)
  (yN:∀(M':Mem),FX M'∨FZ M'→∀b k k',lk b M=some (some k)→lk b M'=some (some k')→∃k1,lk b M=some (some k1)):
  (Code.rangeFunc g ps assign body).wpIn Fence.wide n P Q a w:=by
 refine wpIn_rangeFunc ?_;intro fn yi;obtain⟨rec,me⟩:∃rec:Loop,rec={state:=.ready,pending:=none,fn,tmps:=a.tmps,params:=ps,assign,body,defers:=w.heap.size}:=⟨_,rfl⟩
 obtain⟨W1,sr⟩:∃W1,(w.alloc (.deferred (some []))).alloc (.loop rec)=W1:=⟨_,rfl⟩
 have Fu:W1.heap[w.heap.size+1]?=some (.loop rec):=by
  rw [←sr];have:=World.alloc_heap_new (w.alloc (.deferred (some []))) (.loop rec);rwa [World.size_alloc] at this
 have JE:W1.heap[w.heap.size]?=some (.deferred (some [])):=by
  rw [←sr];exact(Below.heap_alloc _ _ _ (by simp)).trans (World.alloc_heap_new w _)
 have px:gS w φ R M M W1 φ R:=by
  refine(gS.refl gG l8 fe).grow ?_ ?_ ?_ ?_ ?_ (by rw [←sr];exact Nat.le_refl _)
  ·rw [←sr,World.size_alloc,World.size_alloc];omega
  ·intro n hn;rw [←sr];exact(Below.heap_alloc _ _ _ (by simp;omega)).trans (Below.heap_alloc _ _ _ hn)
  ·rw [←sr];rfl
  ·rw [←sr];rfl
  ·rw [←sr];rfl
 have JF:w.heap.size+1<W1.heap.size:=(Array.getElem?_eq_some_iff.1 Fu).1
 have Fv:∀{W:World} {φ':Ph} {R':Nat→Prop} {M':Mem} {n:Nat} {o:Obj},gX W R' φ' M'→W.heap[n]?=some o→(∀C t,o≠.cells C t (0,0))→¬dj φ' M' n:=by
  intro W φ' R' M' n o hm ho eS hb;obtain⟨C,t,hC⟩:=hm.cells hb;rw [ho] at hC;cases hC;exact eS _ _ rfl
 have yR:¬dj φ M (w.heap.size+1):=Fv px.mem Fu (fun _ _ h=>by cases h);have JG:¬dj φ M w.heap.size:=Fv px.mem JE (fun _ _ h=>by cases h)
 have lC:∀{W:World} {φ':Ph} {R':Nat→Prop} {M':Mem} {JH:World},JH.heap.size=W1.heap.size→gS JH φ R M M' W φ' R'→¬R' (w.heap.size+1)∧¬R' w.heap.size:=by
  intro W φ' R' M' JH hs h;constructor
  ·intro q;rcases h.Rn _ q with z|z|z
   ·have:=fe _ z;omega
   ·omega
   ·exact yR z
  ·intro q;rcases h.Rn _ q with z|z|z
   ·have:=fe _ z;omega
   ·omega
   ·exact JG z
 refine⟨w.heap.size+1,[{target:=.collected w.heap.size,args:=#[]}],W1,{target:=.fn (.func gf) lb,args:=#[.func (.yield (w.heap.size+1)) #[] #[]]},W1,gf,
  #[.func (.yield (w.heap.size+1)) #[] #[]]++lb,W1,?_,?_,fun _ _=>trivial,?_,fun h=>by simp [Fence.wide] at h,?_⟩
 ·rw [←sr,me];exact run_enterLoop_outer _ _ _ _ _
 ·simp only [resolve,hg];simp [go_sem]
 ·simp [invoke,go_sem,eg]
 refine(EY W1 rec fn me Fu px (fun h=>by have:=fe _ h;omega)).mono ?_;rintro e W2 ⟨⟨v,rfl⟩,⟨M',φ',R',hF,h2⟩|⟨M',φ',R',hF,h2⟩⟩
 ·obtain⟨n1,n2⟩:=lC rfl h2;have lj:W2.heap[w.heap.size+1]?=some (.loop rec):=(h2.ext.block _ JF yR).trans Fu;have JI:W2.heap[w.heap.size]?=some (.deferred (some [])):=(h2.ext.block _ (by omega) JG).trans JE;refine⟨none,_,by have:=run_endLoop (P:=P) lj (by rw [me];simp);rw [show rec.pending=none by rw [me]] at this;exact this,?_⟩
  have JJ:=px.trans h2 (fun b k k' q1 q2=>yN M' (.inl hF) b k k' q1 q2);exact JC _ _ M' φ' R' hF (JJ.put (l:=w.heap.size+1) (by omega) n1 (Fv h2.mem lj (fun _ _ h=>by cases h)) (fun n hn=>World.putObj_heap_other (by omega)) (by simp [World.putObj]) rfl rfl rfl) (Nat.le_refl _) n2 ((World.putObj_heap_other (by omega)).trans JI)
 ·have Fw:∀{o:Obj},(W1.putObj (w.heap.size+1) o).heap.size=W1.heap.size:=by intro o;simp [World.putObj]
  obtain⟨n1,n2⟩:=lC Fw h2
  have lj:W2.heap[w.heap.size+1]?=some (.loop (pw rec)):=by
   rw [h2.ext.block _ (by rw [Fw];exact JF) yR];exact World.putObj_heap_same JF
  have JI:W2.heap[w.heap.size]?=some (.deferred (some [])):=by
   rw [h2.ext.block _ (by rw [Fw];omega) JG,World.putObj_heap_other (by omega)];exact JE
  refine⟨some .ret,_,by have:=run_endLoop (P:=P) lj (by simp [pw]);exact this,?_⟩;have aj8:gS w φ R M M (W1.putObj (w.heap.size+1) (.loop (pw rec))) φ R:=px.put (l:=w.heap.size+1) (by omega) (fun h=>by have:=fe _ h;omega) yR (fun n hn=>World.putObj_heap_other (by omega)) Fw rfl rfl rfl;have JJ:=aj8.trans h2 (fun b k k' q1 q2=>yN M' (.inr hF) b k k' q1 q2);refine wpIn_ret (JD _ _ M' φ' R' hF (JJ.put (l:=w.heap.size+1) (by omega) n1 (Fv h2.mem lj (fun _ _ h=>by cases h)) (fun n hn=>World.putObj_heap_other (by omega)) (by simp [World.putObj]) rfl rfl rfl) (Nat.le_refl _) n2 ((World.putObj_heap_other (by omega)).trans JI))
theorem Fx {fn:Func} {r:AV} {c:Ctx} {M:Mem} {W:World} {φ mL:Ph} {R R3:Nat→Prop} {D:Nat} {ds:List Deferred} {h:St} {BM:Act} {w':World} (gT:cW ⟨W,dj φ M,R,φ,ds⟩ mL R3 h BM w') (wg:n9 P fn [] r [] h) (JK:BM.defers=[{target:=.collected D,args:=#[]}]) (hm:gX W R φ M)
  (hD:W.heap[D]?=some (.deferred (some []))) (pY:¬R D) (wh:∀n,c.R0 n→R n) (wi:∀n,R n→c.R0 n∨c.w0.heap.size≤n∨c.G n) (gY:∀n,dj φ M n→c.w0.heap.size≤n∨c.G n) (rh:Ext c.w0 W c.G) (yS:c.w0.heap.size≤D):ZM P fn r c BM w':=by
 have Wr:D<W.heap.size:=(Array.getElem?_eq_some_iff.1 hD).1
 have Ws:¬dj φ M D:=fun hb=>by
  obtain⟨C,t,hC⟩:=hm.cells hb;rw [hD] at hC;cases hC
 have Wt:w'.heap[D]?=some (.deferred (some [])):=by rw [gT.ext.block D Wr Ws];exact hD
 have aj9:¬R3 D:=fun q=>by
  rcases gT.Rn D q with q|q|q
  ·exact pY q
  ·exact absurd q (Nat.not_le.2 Wr)
  ·exact Ws q
 have aj_:¬dj mL h.m D:=fun hb=>by
  obtain⟨C,t,hC⟩:=gT.m.cells hb;rw [Wt] at hC;cases hC
 have he:∀k,k≠D→(w'.putObj D (.deferred none)).heap[k]?=w'.heap[k]?:=fun k hk=>World.putObj_heap_other hk
 have ed:(w'.putObj D (.deferred none)).heap.size=w'.heap.size:=by simp [World.putObj]
 have oa:∀k,R3 k→(w'.putObj D (.deferred none)).heap[k]?=w'.heap[k]?:=fun k hk=>he k (fun e=>aj9 (e▸hk))
 have Fy:cW ⟨w'.putObj D (.deferred none),dj mL h.m,R3,mL,BM.defers⟩ mL R3 h BM (w'.putObj D (.deferred none)):=by
  refine⟨gT.n,fun t av ht=>(gT.t t av ht).mono oa (fun _ h=>h) (fun _ _ h=>h),⟨fun b k hb=>?_,gT.m.inj,gT.m.ga,gT.m.gl.mono oa (fun _ h=>h)⟩,gT.gM,fun b k x hb hx=>.inr ⟨b,k,x,hb,hx,rfl⟩,fun _ h=>h,fun _ h=>.inl h,fun k hk=>by rw [ed];exact gT.Rb k hk,Ext.refl _ _,rfl,fun b _=>.inr rfl⟩;obtain⟨oh,h4,h5⟩:=gT.m.rel b k hb;exact⟨oh,h4,h5.mono oa (fun x hx=>he _ (fun e=>aj_ (e▸⟨b,k,x,hb,by rw [h4,hx],rfl⟩))) (fun _ _ h=>h)⟩
 obtain⟨vs,ρ,f1,f2,f3,f4,f5⟩:=wg;obtain⟨v,g1,g2⟩:=yb Fy f1;refine⟨D,JK,Wt,v,mL.via ρ,R3,g1,mz Fy.m (m:=[]) (fun _ h=>h) (fun b k h hb=>by simp [lk] at hb) g2 f4,fun k hk=>gT.R0 k (wh k hk),fun k hk=>?_,gT.Rb,?_⟩
 ·rcases gT.Rn k hk with q|q|q
  ·exact wi k q
  ·exact .inr (.inl (Nat.le_trans rh.size q))
  ·exact .inr (gY k q)
 ·refine(rh.trans gT.ext fun i hi hg=>?_).trans (G':=fun i=>i=D) ⟨rfl,rfl,rfl,Nat.le_refl _,by rw [ed];exact Nat.le_refl _,fun i _ hi=>he i hi⟩ fun i hi hg=>?_
  ·rcases gY i hg with q|q
   ·exact absurd q (Nat.not_le.2 hi)
   ·exact q
  ·omega
theorem aj' {fn:Func} {r:AV} {n:Nat} {t:List (Nat×AV)} {M:Mem} {rest:Code} {Q:Exit→St→Prop} {c:Ctx} {a:Act} {W:World} {φ:Ph} {R:Nat→Prop} {D:Nat} (Ba:dW P W.heap.size rest (JB (Bv P fn r)) ⟨n,t,M⟩)
  (hn:a.tmps.size=n) (ht:∀q av,lk q t=some av→Rel W R φ av (a.tmps.getD q undef)) (hm:gX W R φ M) (l8:∀b x,φ b=some x→∃y,lk b M=some y) (fe:∀m,R m→m<W.heap.size)
  (hD:W.heap[D]?=some (.deferred (some []))) (pY:¬R D) (wh:∀n,c.R0 n→R n) (wi:∀n,R n→c.R0 n∨c.w0.heap.size≤n∨c.G n) (gY:∀n,dj φ M n→c.w0.heap.size≤n∨c.G n) (rh:Ext c.w0 W c.G) (yS:c.w0.heap.size≤D):
  rest.wp P (fun e a' w'=>(∃s',dJ c s' a' w'∧Q e s')∨(e=.ret∧ZM P fn r c a' w')) {a with defers:=[{target:=.collected D,args:=#[]}]} W:=by
 have kD:cW ⟨W,dj φ M,R,φ,[{target:=.collected D,args:=#[]}]⟩ φ R ⟨n,t,M⟩ {a with defers:=[{target:=.collected D,args:=#[]}]} W:=⟨hn,ht,hm,l8,fun b k x hb hx=>.inr ⟨b,k,x,hb,hx,rfl⟩,fun _ h=>h,fun _ h=>.inl h,fe,Ext.refl _ _,rfl,fun b _=>.inr rfl⟩;refine wp_mono (Ba ⟨W,dj φ M,R,φ,[{target:=.collected D,args:=#[]}]⟩ rfl _ W ⟨φ,R,kD⟩) ?_;rintro e a' w' ⟨s',cJ,hq⟩;cases e with
 |ret=>
  refine .inr ⟨rfl,?_⟩;rcases hq with hq|⟨h,hw,hq⟩
  ·obtain⟨mL,R3,gT⟩:=cJ;exact Fx gT hq gT.d hm hD pY wh wi gY rh yS
  ·obtain⟨mL,R3,gT⟩:=cJ.freeze hw;exact Fx gT hq gT.d hm hD pY wh wi gY rh yS
 |_=>exact hq.elim
end Go.Ab
namespace Go.Ab
open Go.RowKit
section
variable{P:Program} {o:Oper} {s:St} {lim:Nat}
theorem su {ops:Array Oper} {id:Nat} {Q:Exit→St→Prop} {l:List Oper} (tP:ops.toList.dropLast=l) (qY:ops.toList.getLast?=some o) (hg:o.guard=none)
  (h:Go P ops false (fun s1=>∃(C:Bool→Prop) (S:Bool→St),(∀(c:Ctx) (a:Act) (w:World) (next:Act→World→Prop) (Q:Exit→Act→World→Prop),dJ c s1 a w→(∀b a' w',C b→dJ c (S b) a' w'→next a' w')→o.wp P a w next Q)∧∀b,C b→Q .normal (S b)) l s []):dW P lim (.region id ops false) Q s:=by
 have BA:ops.toList=l++[o]:=by
  rw [←tP];obtain⟨ys,hy⟩:=List.getLast?_eq_some_iff.1 qY;rw [hy];simp
 intro c ep a w hs;have ed:ops.size=l.length+1:=by rw [←Array.length_toList,BA];simp
 have k_:∀i,ops[i]?=(l++[o])[i]?:=fun i=>by rw [←BA,Array.getElem?_toList]
 obtain⟨rr,h1,_,h3⟩:=h;obtain⟨i1,i2⟩:=vu l rr 0 h1.symm;refine wp_region ?_
 have:=E0 (P:=P) (js:=[l.length]) (Q:=fun e a' w'=>∃s',dJ c s' a' w'∧Q e s') (ops:=ops) (c:=c) (fun s1 a1 w1 hq dL=>?_) (items 0 l rr) s a w (fun x hx=>by
  obtain⟨g1,g2⟩:=i2 x hx;rw [Nat.sub_zero] at g2;rw [k_,List.getElem?_append_left (List.getElem?_eq_some_iff.1 g2).1];exact g2) (h3 0) hs
 ·rw [i1] at this;rw [ed,List.range_succ];simpa using this
 ·obtain⟨C,S,ca,JL⟩:=hq;rw [wpOps_cons];exact ac4 (by rw [k_];simp) hg dL (ca c a1 w1 _ _ dL fun b a' w' hb cJ=>⟨S b,cJ,JL b hb⟩)
theorem aka (d t e:Nat) (p:Option Addr) (n k:Nat) (h:P.underlying t=some (.slice e)) (w:World):(Op.equalIn (d+1) t (.slice p n k) (.slice none 0 0)).run P w=.ok p.isNone w:=by
 cases p<;>simp [Op.equalIn,run_underlying h]
theorem akb (t e:Nat) (p:Option Addr) (n k:Nat) (h:P.underlying t=some (.slice e)) (w:World):(Op.equal t (.slice p n k) (.slice none 0 0)).run P w=.ok p.isNone w:=aka 9999 t e p n k h w
theorem sx {t ty e:Nat} {x y:Operand} {xs:List AV} (ho:o.op=.binOp .eql t x y ty) (hu:P.underlying t=some (.slice e)) (hx:s.ev x=.sl xs) (hy:s.ev y=.b9)
  (c:Ctx) (a:Act) (w:World) (next:Act→World→Prop) (Q:Exit→Act→World→Prop) (hs:dJ c s a w) (hn:∀b a' w',(b=true→xs=[])→dJ c (s.put o.dst (.sc (.bool b))) a' w'→next a' w'):o.wp P a w next Q:=by
 obtain⟨φ,R,dz⟩:=hs;have h1:=dz.ev x;rw [hx] at h1;have h2:=dz.ev y;rw [hy] at h2;generalize hq:a.eval x=q at h1;generalize JL:a.eval y=q2 at h2;cases h2 with
 |b9=>
  have go:∀(p:Option Addr) (n k:Nat),q=.slice p n k→(p.isNone=true→xs=[])→o.wp P a w next Q:=by
   intro p n k Ic hb
   have gn:(execOp a.eval o).run P w=.ok (.value (.bool p.isNone)) w:=by
    simp [execOp,ho,hq,JL,Ic,eqGuard,binOp,akb t e p n k hu]
   unfold Oper.wp;rw [gn];exact hn p.isNone _ _ hb ⟨φ,R,dz.put _ (.sc rfl)⟩
  cases h1 with
  |jU=>exact go _ _ _ rfl (fun _=>rfl)
  |sl f he hR lY hl hc hr=>exact go _ _ _ rfl (fun h=>by cases h)
end
section
variable{P:Program} {tt:TT} {ops:Array Oper} {draw:Bool} {Q:St→Prop} {acc:List (Option ec)} {l:List Oper} {n:Nat} {t:List (Nat×AV)} {m:Mem}
theorem akc {w:World} {R:Nat→Prop} {φ:Ph} {cs ds:List AV} {v:Value} (h:Rel w R φ (.vp (cs++ds)) v):Rel w R φ (.vp cs) v:=by
 cases h with
 |vp f hR hc hr=>
  refine .vp f hR (fun k hk=>hc k (by simp;omega)) (fun j c hj=>hr j c ?_);rw [List.getElem?_append_left (List.getElem?_eq_some_iff.1 hj).1];exact hj
theorem akd {o:Oper} {s:St} {t n e:Nat} {x y:Operand} {D E:af} {k:IntKind} {i:Int} {cs l l2:List AV} (ho:o.op=.indexAddr t x y) (h:aF P t=some D) (hk:D.k=.array n e) (hE:aF P e=some E) (hx:s.ev x=.vp cs) (hy:s.ev y=.sc (.int k i))
  (jd:0≤i) (hi:i<n) (hl:kL cs (i.toNat*E.size)=some (l++l2)):di P o s ⟨.vp l,[],[],[]⟩:=by
 intro s' _ ca _ _;refine gj fun c φ R a w hs=>?_
 have h1:=hs.ev x;rw [ca x (by simp [ho,Op.operands]),hx] at h1;have h2:=hs.ev y;rw [ca y (by simp [ho,Op.operands]),hy] at h2;have h2:=h2.gN;generalize hq:a.eval x=q at h1;have nT:=h1;cases h1 with
 |@vp _ _ b off f hR hc hr=>
  exact⟨.pointer (some ⟨b,off+i.toNat*E.size,none⟩),by simp [execOp,ho,hq,h2,run_indexAt_array h hk hE jd hi],akc (HB nT hl)⟩
theorem Wu {α:Type} (enc:α→AV) (z:Nat) (hz:∀g,(enc g).cells.length=z):∀(gs:List α) (j:Nat) (w:α),gs[j]?=some w→∃l2,kL (gs.flatMap fun g=>(enc g).cells) (j*z)=some ((enc w).cells++l2)
 |[],j,w,h=>by simp at h
 |g::gs,0,w,h=>by
  simp at h;subst h;exact⟨gs.flatMap fun g=>(enc g).cells,by rw [Nat.zero_mul,E5 _ _ (Nat.zero_le _)];rfl⟩
 |g::gs,j+1,w,h=>by
  have hj:gs[j]?=some w:=by simpa using h
  obtain⟨l2,h2⟩:=Wu enc z hz gs j w hj
  have hlen:(gs.flatMap fun g=>(enc g).cells).length=gs.length*z:=by
   clear h2 hj h
   induction gs with
   |nil=>simp
   |cons q qs ih=>rw [List.flatMap_cons,List.length_append,hz,ih,List.length_cons,Nat.succ_mul,Nat.add_comm]
  have cn:=(List.getElem?_eq_some_iff.1 hj).1;have hle:j*z≤gs.length*z:=Nat.mul_le_mul_right _ (Nat.le_of_lt cn);rw [E5 _ _ (by rw [hlen];exact hle)] at h2;refine⟨l2,?_⟩;rw [List.flatMap_cons,E5 _ _ (by rw [List.length_append,hlen,hz,Nat.succ_mul];omega)];rw [←Option.some.inj h2];congr 1;rw [Nat.succ_mul,Nat.add_comm (j*z) z,←List.drop_drop,List.drop_append_of_le_length (by rw [hz];exact Nat.le_refl _),←hz g,List.drop_length,List.nil_append]
theorem ake {α:Type} {o:Oper} {nn ty e:Nat} {t':List (Nat×AV)} {x y:Operand} {D E:af} {k:IntKind} {cs:List AV} (enc:α→AV) (gs:List α) (jx:Int) (w:α) (hw:aK gs jx=some w) (ht:fK P tt) (hg:eG ops ⟨n,t,m⟩ o=some true) (ho:o.op=.indexAddr ty x y) (hD:lk ty tt=some D) (hk:D.k=.array nn e) (hE:lk e tt=some E) (hn:gs.length=nn) (hz:∀g,(enc g).cells.length=E.size)
  (hx:(⟨n,t,m⟩:St).ev x=.vp cs) (yT:cs=gs.flatMap fun g=>(enc g).cells) (hy:(⟨n,t,m⟩:St).ev y=.sc (.int k jx)) (hp:fX n t o.dst (.vp (enc w).cells)=some t') (h:Go P ops draw Q l ⟨n,t',m⟩ (some ⟨.vp (enc w).cells,[],[],[]⟩::acc)):Go P ops draw Q (o::l) ⟨n,t,m⟩ acc:=by
 obtain⟨h1,h2,h3⟩:=PU hw;obtain⟨l2,lj⟩:=Wu enc E.size hz gs jx.toNat w h3;rw [←yT] at lj;exact eA hg (akd (P:=P) (s:=⟨n,t,m⟩) ho (ht _ _ hD) hk (ht _ _ hE) hx hy h1 (by omega) lj) rfl hp rfl h
end
theorem cW.swap {c:Ctx} {φ:Ph} {R:Nat→Prop} {s:St} {a:Act} {w:World} (h:cW c φ R s a w) {b:Nat} {k k':fc} (hb:lk b s.m=some (some k)) (hk:∀oh,iT w R φ oh k→iT w R φ oh k'):cW c φ R {s with m:=(b,some k')::s.m} a w:=by
 have Fz:∀b2 k2,lk b2 ((b,some k')::s.m)=some (some k2)→∃k3,lk b2 s.m=some (some k3):=by
  intro b2 k2 h2;rw [eo] at h2;split at h2
  ·rename_i e;cases e;exact⟨k,hb⟩
  ·exact⟨k2,h2⟩
 refine⟨h.n,h.t,⟨?_,?_,?_,h.m.gl⟩,?_,?_,h.R0,h.Rn,h.Rb,h.ext,h.d,h.gi⟩
 ·intro b2 k2 h2;rw [eo] at h2;split at h2
  ·rename_i e;cases e;cases h2;obtain⟨oh,h3,h4⟩:=h.m.rel b k hb;exact⟨oh,h3,hk oh h4⟩
  ·exact h.m.rel b2 k2 h2
 ·intro b1 b2 k1 k2 h1 h2 e1 e2;obtain⟨k3,e3⟩:=Fz _ _ e1;obtain⟨k4,e4⟩:=Fz _ _ e2;exact h.m.inj b1 b2 k3 k4 h1 h2 e3 e4
 ·intro b1 k1 h1 e1;obtain⟨k3,e3⟩:=Fz _ _ e1;exact h.m.ga b1 k3 h1 e3
 ·intro b1 x h1;obtain⟨y,hy⟩:=h.gM b1 x h1;by_cases e:b1=b
  ·subst e;exact⟨some k',by rw [eo];simp⟩
  ·exact⟨y,by rw [eo];split;(rename_i e2;exact absurd e2 (by first|exact e|exact fun q=>e q.symm));exact hy⟩
 ·intro b1 k1 h1 e1;obtain⟨k3,e3⟩:=Fz _ _ e1;exact h.fresh b1 k3 h1 e3
theorem iT.take {w:World} {R:Nat→Prop} {φ:Ph} {T z:Nat} {xs:List AV} (n:Nat) (oh:Option Home) (h:iT w R φ oh ⟨T,z,xs⟩):iT w R φ oh ⟨T,z,xs.take n⟩:=by
 cases oh with
 |none=>
  have:xs=[]:=h;subst this;show List.take n []=[]
  simp
 |some x=>
  obtain⟨h1,h2,h3,h4,C,h5,h6,h7⟩:=h;refine⟨h1,h2,Nat.le_trans (by simp [Nat.min_le_right]) h3,h4,C,h5,h6,fun i y hy=>h7 i y ?_⟩;have hy:(xs.take n)[i]?=some y:=hy;rw [List.getElem?_take] at hy;split at hy
  ·exact hy
  ·cases hy
section
variable{P:Program} {o:Oper} {s:St}
theorem akf {t e b len bt bz:Nat} {x:Operand} {hi:Operand} {D E:af} {xs:List AV} {kk:IntKind} {h:Int} (ho:o.op=.slice t x none (some hi) none) (hD:aF P t=some D) (hk:D.k=.slice e) (hE:aF P e=some E) (hx:s.ev x=.arr b 0 len) (hb:lk b s.m=some (some ⟨bt,bz,xs⟩)) (jF:bz=E.size) (iW:s.ev hi=.sc (.int kk h)) (h0:0≤h) (h3:h≤len):
  di P o s ⟨.arr b 0 h.toNat,[(b,some ⟨bt,bz,xs.take h.toNat⟩)],[b],[]⟩:=by
 have lD:=o_ hD hk;intro s' _ ca gk _;have ig:lk b s'.m=some (some ⟨bt,bz,xs⟩):=by rw [gk b (by simp)];exact hb
 refine tJ fun c φ R a w hs=>?_
 have e0:=hs.ev x;rw [ca x (by simp [ho,Op.operands]),hx] at e0;have E4:=fun cap lE=>EX (P:=P) w true len cap (Option.map a.eval none) (Option.map a.eval (some hi)) 0 h rfl ⟨kk,vV hs iW (ca hi (by simp [ho,Op.operands]))⟩ (by omega) h0 (by omega) lE
 generalize hq:a.eval x=q at e0;have Wv:=hs.swap ig (k':=⟨bt,bz,xs.take h.toNat⟩) (fun oh hr=>hr.take _);cases e0 with
 |kA gF=>
  have e1:h=0:=by omega
  subst e1;refine⟨.slice none 0 0,w,φ,R,?_,cW.app (s:=s') Wv o.dst (.kA gF)⟩;have:=E4 0 (Nat.le_refl _);simp only [execOp,ho,hq,Instr.sliceAt,Instr.slice];simp at this;simp [run_underlying lD w,this,run_sizeOf hE w]
 |@arr _ _ _ _ cap hm gF lE tR=>
  obtain⟨oh,gm,hr⟩:=hs.m.rel b _ ig;rw [gF] at gm;cases gm;have AW:E.size=hm.cy:=by rw [←hr.1,jF]
  refine⟨.slice (some ⟨hm.cY,0*hm.cy,none⟩) h.toNat cap,w,φ,R,?_,cW.app (s:=s') Wv o.dst (.arr gF (by omega) (by omega))⟩;have:=E4 cap lE;simp only [execOp,ho,hq,Instr.sliceAt,Instr.slice];simp at this;simp [run_underlying lD w,this,run_sizeOf hE w,qP,AW]
end
section
variable{P:Program} {tt:TT} {ops:Array Oper} {draw:Bool} {Q:St→Prop} {acc:List (Option ec)} {l:List Oper} {n:Nat} {t:List (Nat×AV)} {m:Mem}
def kF {α:Type} (xs:List α) (h:Int):Option (List α):=bif decide (0≤h)&&decide (h≤(xs.length:Int)) then some (xs.take h.toNat) else none
theorem uv {α:Type} {o:Oper} {ty e b len bt bz:Nat} {t':List (Nat×AV)} {m':Mem} {x hi:Operand} {D E:af} {kk:IntKind} (enc:α→AV) (xs zs:List α) (h:Int) (mH:kF xs h=some zs) (hlen:len=xs.length) (ht:fK P tt) (hg:eG ops ⟨n,t,m⟩ o=some true) (ho:o.op=.slice ty x none (some hi) none) (hD:lk ty tt=some D) (hk:D.k=.slice e) (hE:lk e tt=some E)
  (hx:(⟨n,t,m⟩:St).ev x=.arr b 0 len) (hb:lk b m=some (some ⟨bt,bz,xs.map enc⟩)) (hz:Nat.beq bz E.size=true) (iW:(⟨n,t,m⟩:St).ev hi=.sc (.int kk h)) (hp:fX n t o.dst (.arr b 0 zs.length)=some t') (hm:l9 [(b,some ⟨bt,bz,zs.map enc⟩)] m=some m')
  (hq:Go P ops draw Q l ⟨n,t',m'⟩ (some ⟨.arr b 0 zs.length,[(b,some ⟨bt,bz,zs.map enc⟩)],[b],[]⟩::acc)):Go P ops draw Q (o::l) ⟨n,t,m⟩ acc:=by
 unfold kF at mH;cases hc:(decide (0≤h)&&decide (h≤(xs.length:Int))) with
 |false=>rw [hc] at mH;cases mH
 |true=>
  rw [hc] at mH;have e1:xs.take h.toNat=zs:=Option.some.inj mH;simp only [Bool.and_eq_true,decide_eq_true_eq] at hc;have hA:=akf (P:=P) (s:=⟨n,t,m⟩) ho (ht _ _ hD) hk (ht _ _ hE) hx hb (Nat.eq_of_beq_eq_true hz) iW hc.1 (by omega);have e2:h.toNat=zs.length:=by rw [←e1,List.length_take];omega
  rw [←List.map_take,e1,e2] at hA;exact eA hg hA rfl hp hm hq
theorem akg {α:Type} {xs:List α} {i:Int} {a b:α} (h:aK xs i=some a):aK (bp xs i b) i=some b:=by
 obtain⟨h1,h2,_⟩:=PU h;obtain⟨j,rfl⟩:=Int.eq_ofNat_of_zero_le h1;show(xs.set j b)[j]?=some b
 have:j<xs.length:=h2;simp [this]
theorem iZ {α:Type} {xs l:List α} {i:Int} {a b:α} (hl:bp xs i b=l) (h:aK xs i=some a):aK l i=some b:=hl▸akg h
theorem yU {α:Type} {xs l:List α} {i:Int} {b:α} (hl:bp xs i b=l):l.length=xs.length:=by rw [←hl];simp [bp]
end
def JM:AV→AV
 |.b9=>.sl []
 |x=>x
theorem akh {w:World} {R:Nat→Prop} {φ:Ph} {c:AV} {u:Value} (h:Rel w R φ c u):Rel w R φ (JM c) u:=by
 cases c with
 |b9=>cases h;exact .jU
 |_=>exact h
theorem aki {w:World} {R:Nat→Prop} {φ:Ph} {oh:Option Home} {ty cy N:Nat} {cs:List AV} (h:iT w R φ oh ⟨ty,cy,List.replicate N (.agg cs)⟩):iT w R φ oh ⟨ty,cy,List.replicate N (.agg (cs.map JM))⟩:=by
 cases oh with
 |none=>
  simp only [iT] at h⊢;simpa using h
 |some x=>
  obtain⟨h1,h2,h3,h4,C,hC,hs,iL⟩:=h;refine⟨h1,h2,by simpa using h3,h4,C,hC,hs,fun i y hy=>?_⟩;dsimp only at hy;rw [List.getElem?_replicate] at hy;split at hy
  ·rename_i hi;cases hy;obtain⟨q1,q2⟩:=iL i (.agg cs) (by simp [hi]);refine⟨by simpa [AV.cells] using q1,fun j c hj=>?_⟩;simp only [AV.cells,List.getElem?_map] at hj;cases hc:cs[j]?with
   |none=>rw [hc] at hj;cases hj
   |some c0=>
    rw [hc] at hj;cases hj;obtain⟨u,hu,hr⟩:=q2 j c0 hc;exact⟨u,hu,akh hr⟩
  ·cases hy
section
variable{P:Program} {tt:TT} {ops:Array Oper} {draw:Bool} {Q:St→Prop} {acc:List (Option ec)} {l:List Oper} {n:Nat} {t:List (Nat×AV)} {m:Mem}
theorem JN {α:Type} {o:Oper} {ty e d:Nat} {t':List (Nat×AV)} {m':Mem} {x y:Operand} {D E:af} {k:IntKind} {cs:List AV} (enc:α→AV) (z:α) (i:Int) (zs:List α) (mH:lh E.bytes z i=some zs) (ht:fK P tt) (hg:eG ops ⟨n,t,m⟩ o=some true) (ho:o.op=.makeSlice ty x y) (hD:lk ty tt=some D) (hk:D.k=.slice e) (hE:lk e tt=some E)
  (hx:(⟨n,t,m⟩:St).ev x=.sc (.int k i)) (hy:(⟨n,t,m⟩:St).ev y=.sc (.int k i)) (hz:Nat.blt 0 E.size=true) (jv:E.zero=.agg cs) (jF:enc z=.agg (cs.map JM)) (hd:o.dst=some d) (hn:mD ⟨n,t,m⟩ [d]=true)
  (hp:fX n t (some d) (.arr d 0 zs.length)=some t') (hm:l9 [(d,some ⟨e,E.size,zs.map enc⟩)] m=some m')
  (h:Go P ops draw Q l ⟨n,t',m'⟩ (some ⟨.arr d 0 zs.length,[(d,some ⟨e,E.size,zs.map enc⟩)],[],[d]⟩::acc)):Go P ops draw Q (o::l) ⟨n,t,m⟩ acc:=by
 obtain⟨rfl,h0,h1,h2⟩:=PG mH
 have hA:di P o ⟨n,t,m⟩ ⟨.arr d 0 (List.replicate i.toNat z).length,[(d,some ⟨e,E.size,(List.replicate i.toNat z).map enc⟩)],[],[d]⟩:=by
  have:=OM (P:=P) (o:=o) (s:=⟨n,t,m⟩) (d:=d) ho (ht _ _ hD) hk (ht _ _ hE) hx hy hz h0 h1 h2;rw [jv] at this;have h5:=adb this fun w R φ oh=>aki
  rw [List.map_replicate,jF,List.length_replicate];exact h5
 exact eA hg hA hn (by rw [hd];exact hp) hm h
end
section
variable{P:Program} {lim:Nat} {body:Code} {Q:Exit→St→Prop}
def BN (P:Program) (lim:Nat) (body:Code) (Q:Exit→St→Prop):Nat→St→Prop
 |0,_=>False
 |n+1,s=>dW P lim body (iE (BN P lim body Q n) Q) s
theorem JO {n:Nat} {s:St} (h:dW P lim body (iE (BN P lim body Q n) Q) s):BN P lim body Q (n+1) s:=h
theorem Ww {c:Ctx} (ep:c.w0.heap.size=lim):∀(n:Nat) (s:St) (a:Act) (w:World),BN P lim body Q n s→dJ c s a w→Code.rounds P body (fun e a' w'=>∃s',dJ c s' a' w'∧Q e s') n a w
 |0,_,_,_,h,_=>h.elim
 |n+1,s,a,w,h,hs=>by
  rw [rounds_succ];refine wp_mono (h c ep a w hs) ?_;rintro e a' w' ⟨s',cJ,hq⟩;cases e with
  |normal=>exact Ww ep n s' a' w' hq cJ
  |_=>exact⟨s',cJ,hq⟩
theorem akj (n:Nat) {s:St} (h:BN P lim body Q n s):dW P lim (.loop body) Q s:=fun _ ep a w hs=>wp_loop_rounds n (Ww ep n s a w h hs)
end
variable{P:Program}
section
variable{lim:Nat} {Q:Exit→St→Prop} {s:St}
theorem akk {code:Code} {Q':Exit→St→Prop} (h:ll P lim code Q s) (hq:∀e s,Q e s→Q' e s):ll P lim code Q' s:=fun lp n c hc a w hs=>wpIn_mono (h lp n c hc a w hs) fun _ _ _ ⟨s',h1,h2⟩=>⟨s',h1,hq _ _ h2⟩
theorem fg {id:Nat} {ops:Array Oper} {draw:Bool} (cL:P.follows .mixedOrders=true) (hd:ops.toList.all Fm=true) (h:Go P ops draw (Q .normal) ops.toList s []):ll P lim (.region id ops draw) Q s:=akk (ajX cL hd h) fun e s h=>by
 cases e<;>first|exact h|exact h.elim
theorem ox (h:Q .normal s):ll P lim .skip Q s:=fun _ _ _ _ _ _ hs=>wpIn_skip ⟨s,hs,h⟩
theorem uw (h:Q .ret s):ll P lim .ret Q s:=fun _ _ _ _ _ _ hs=>wpIn_ret ⟨s,hs,h⟩
theorem fL {x y:Code} (h:ll P lim x (iE (ll P lim y Q) Q) s):ll P lim (.seq x y) Q s:=by
 intro lp n c ep a w hs;refine wpIn_seq (wpIn_mono (h lp n c ep a w hs) ?_);rintro e a' w' ⟨s',cJ,hq⟩;cases e with
 |normal=>exact hq lp n c ep a' w' cJ
 |_=>exact⟨s',cJ,hq⟩
theorem FA {id:Nat} {x:Code} (h:ll P lim x (pf id Q) s):ll P lim (.block id x) Q s:=by
 intro lp n c ep a w hs;refine wpIn_block (wpIn_mono (h lp n c ep a w hs) ?_);rintro e a' w' ⟨s',cJ,hq⟩;cases e with
 |exit x8=>
  simp only [pf] at hq;simp only [Exit.inBlock];split at hq
  ·rw [if_pos (by assumption)];exact⟨s',cJ,hq⟩
  ·rw [if_neg (by assumption)];exact⟨s',cJ,hq⟩
 |_=>exact⟨s',cJ,hq⟩
theorem nt {x:Operand} {p q:Code} {b:Bool} (hx:s.ev x=.sc (.bool b)) (h1:b=true→ll P lim p Q s) (h2:b=false→ll P lim q Q s):ll P lim (.cond x p q) Q s:=by
 intro lp n c ep a w hs;obtain⟨φ,R,dz⟩:=hs;have hr:=dz.ev x;rw [hx] at hr;cases b with
 |true=>exact wpIn_cond_true hr.gN (h1 rfl lp n c ep a w ⟨φ,R,dz⟩)
 |false=>exact wpIn_cond_false hr.gN (h2 rfl lp n c ep a w ⟨φ,R,dz⟩)
end
def BO {X Y:Type} (z:X⊕Y) (MX:X→Mem) (MY:Y→Mem) (M:Mem):Exit→St→Prop
 |.normal,s=>match z with
  |.inl x=>po M (MX x) s
  |.inr _=>False
 |.ret,s=>match z with
  |.inl _=>False
  |.inr y=>po M (MY y) s
 |_,_=>False
def JP {X Y:Type} (P:Program) (n:Nat) (c:Ctx) (l:Nat) (rec:Loop) (args:List AV) (M:Mem) (MX:X→Mem) (MY:Y→Mem):X⊕Y→Prop
 |.inl x=>Wn P n c l rec args M (MX x)
 |.inr y=>Wo P n c l rec (pw rec) args M (MY y)
theorem akl {X Y:Type} {n l nn:Nat} {c:Ctx} {rec:Loop} {args:List AV} {t:List (Nat×AV)} {M:Mem} (z:X⊕Y) (MX:X→Mem) (MY:Y→Mem) (jG:rec.state=.ready) (yq:rec.pending=none) (IH:args.length=rec.params.size) (hM:tY M=true) (ed:rec.tmps.size=nn)
  (akm:∀w vs φ R,rf c l rec args M w vs φ R→∀q av,lk q t=some av→Rel w R φ av (((rec.params.zip vs).foldl (fun t (p,v)=>t.setIfInBounds p v) rec.tmps).getD q undef))
  (JQ:∀lim,ll P lim rec.assign (iE (ll P lim rec.body (BO z MX MY M)) (fun _ _=>False)) ⟨nn,t,M⟩):JP P n c l rec args M MX MY z:=by
 have core:∀(b:Bool) (M':Mem),(∀e s,BO z MX MY M e s→(e=if b=true then .normal else .ret)∧po M M' s)→∀(w:World) (vs:Array Value) (φ:Ph) (R:Nat→Prop),rf c l rec args M w vs φ R→YieldAt Fence.wide n P l vs w fun e w'=>e=.returned (.bool b)∧∃φ' R',Es (if b=true then w else w.putObj l (.loop (pw rec))) φ R M (.sc (.bool b)) M' w' (.bool b) φ' R':=by
  intro b M' akn w vs φ R hp;have hl:=hp.lp;have cn:l<w.heap.size:=(Array.getElem?_eq_some_iff.1 hl).1;have hy:=run_yield (P:=P) (args:=vs) hl (by rw [←hp.len];exact IH)
  have vn:¬dj φ M l:=fun q=>by
   obtain⟨C,t,hC⟩:=hp.mem.cells q;rw [hl] at hC;cases hC
  have hI:BL ⟨w,dj φ M,R,φ,[]⟩ l rec:=⟨hl,hp.nR,vn,fun i hi=>⟨hp.Rb i hi,fun⟨b,k,x,h1,h2,h3⟩=>hp.mem.ga b k x h1 h2 (h3▸hi)⟩⟩
  have ako:∀(L:List (Nat×Value)) (t:Array Value),(L.foldl (fun t (p:Nat×Value)=>t.setIfInBounds p.1 p.2) t).size=t.size:=by
   intro L
   induction L with
   |nil=>intro t;rfl
   |cons p L ih=>intro t;rw [List.foldl_cons,ih];simp
  have yQ:((rec.params.zip vs).foldl (fun t (p,v)=>t.setIfInBounds p v) rec.tmps).size=nn:=by
   rw [←Array.foldl_toList];exact(ako _ _).trans ed
  have kD:cW ⟨w,dj φ M,R,φ,[]⟩ φ R ⟨nn,t,M⟩ {tmps:=(rec.params.zip vs).foldl (fun t (p,v)=>t.setIfInBounds p v) rec.tmps,defers:=[]} w:=
   ⟨yQ,akm w vs φ R hp,hp.mem,hp.gM,fun b k x hb hx=>.inr ⟨b,k,x,hb,hx,rfl⟩,fun _ h=>h,fun _ h=>.inl h,hp.Rb,Ext.refl _ _,rfl,fun b _=>.inr rfl⟩
  refine⟨_,_,_,_,hy,roundIn_of_wpIn trivial (wpIn_mono (JQ w.heap.size l n _ rfl _ w ⟨φ,R,kD⟩) ?_)⟩;rintro e a1 w1 ⟨s1,⟨gH,R1,dL⟩,hq⟩;cases e with
  |normal=>
   obtain⟨hR1,A6,kP⟩:=dL.pq hI {rec with state:=.busy};refine⟨_,run_beginRound A6 jG,?_⟩;refine wpIn_mono (hq l n _ Wl a1 _ ⟨gH,R1,kP⟩) ?_;rintro e a3 W3 ⟨s3,gT,hz⟩;obtain⟨rfl,wg⟩:=akn e s3 hz;obtain⟨jH,R2,h3⟩:=JA (w:=w.putObj l (.loop {rec with state:=.busy})) hM gT wg;have he:∀{W:World} {o:Obj} {i:Nat},i≠l→(W.putObj l o).heap[i]?=W.heap[i]?:=fun hi=>World.putObj_heap_other hi
   have nu:∀{W:World} {o:Obj},(W.putObj l o).heap.size=W.heap.size:=by intro W o;simp [World.putObj]
   have lj:(w.putObj l (.loop {rec with state:=.busy})).heap[l]?=some (.loop {rec with state:=.busy}):=World.putObj_heap_same cn
   have e1:W3.heap[l]?=some (.loop {rec with state:=.busy}):=by
    rw [h3.ext.block l (by rw [nu];exact cn) vn];exact lj
   have Wx:l<W3.heap.size:=(Array.getElem?_eq_some_iff.1 e1).1
   have Wy:¬R2 l:=fun q=>by
    rcases h3.Rn l q with z|z|z
    ·exact hp.nR z
    ·rw [nu] at z;omega
    ·exact vn z
   have Wz:¬dj jH M' l:=fun q=>by
    obtain⟨C,t,hC⟩:=h3.mem.cells q;rw [e1] at hC;cases hC
   have WA:∀{W:World} {R:Nat→Prop} {φ:Ph} {M:Mem} {o:Obj},gX W R φ M→¬R l→¬dj φ M l→gX (W.putObj l o) R φ M:=by
    intro W R φ M o h h1 h2;refine⟨fun b k hb=>?_,h.inj,h.ga,h.gl.mono (fun i hi=>he fun e=>h1 (e▸hi)) (fun _ h=>h)⟩;obtain⟨oh,q1,q2⟩:=h.rel b k hb;exact⟨oh,q1,q2.mono (fun i hi=>he fun e=>h1 (e▸hi)) (fun x hx=>he fun e=>h2 ⟨b,k,x,hb,by rw [q1,hx],e⟩) (fun _ _ h=>h)⟩
   cases b with
   |true=>
    refine⟨_,_,run_endRound (P:=P) none e1,rfl,jH,R2,?_⟩
    have me:({{rec with state:=.busy} with state:=.ready,pending:=none}:Loop)=rec:=by
     cases rec;simp at jG yq;subst jG;subst yq;rfl
    simp only [Option.isNone_none,if_true];rw [me];refine⟨.sc rfl,WA h3.mem Wy Wz,fun b k x hb hx=>?_,h3.gi,h3.R0,fun i hi=>?_,fun i hi=>by rw [nu];exact h3.Rb i hi,⟨h3.ext.os,h3.ext.tape,h3.ext.output,h3.ext.dr,?_,fun i hi hg=>?_⟩⟩
    ·have:=h3.fresh b k x hb hx;rwa [nu] at this
    ·have:=h3.Rn i hi;rwa [nu] at this
    ·have:=h3.ext.size;rw [nu] at this⊢;exact this
    ·by_cases e:i=l
     ·subst e;rw [World.putObj_heap_same Wx];exact hl.symm
     ·rw [he e];refine(h3.ext.block i (by rw [nu];exact hi) hg).trans ?_;exact he e
   |false=>
    refine⟨_,_,run_endRound (P:=P) (some .ret) e1,rfl,jH,R2,?_⟩;have me:({{rec with state:=.busy} with state:=.done,pending:=some .ret}:Loop)=pw rec:=rfl;simp only [Option.isNone_some,Bool.false_eq_true,if_false];rw [me];refine⟨.sc rfl,WA h3.mem Wy Wz,fun b k x hb hx=>?_,h3.gi,h3.R0,fun i hi=>?_,fun i hi=>by rw [nu];exact h3.Rb i hi,⟨h3.ext.os,h3.ext.tape,h3.ext.output,h3.ext.dr,?_,fun i hi hg=>?_⟩⟩
    ·have:=h3.fresh b k x hb hx;rwa [nu] at this⊢
    ·have:=h3.Rn i hi;rwa [nu] at this⊢
    ·have:=h3.ext.size;rw [nu] at this⊢;rw [nu];exact this
    ·by_cases e:i=l
     ·subst e;rw [World.putObj_heap_same Wx,World.putObj_heap_same cn]
     ·rw [he e,he e];rw [nu] at hi;refine(h3.ext.block i (by rw [nu];exact hi) hg).trans ?_;exact he e
  |_=>exact hq.elim
 cases z with
 |inl x=>
  exact fun w vs φ R hp=>by
   have:=core true (MX x) (fun e s h=>by cases e<;>first|exact⟨rfl,h⟩|exact h.elim) w vs φ R hp
   simpa using this
 |inr y=>
  exact fun w vs φ R hp=>by
   have:=core false (MY y) (fun e s h=>by cases e<;>first|exact⟨rfl,h⟩|exact h.elim) w vs φ R hp
   simpa using this
section
variable{n l:Nat} {c:Ctx} {Q:Exit→St→Prop} {Z:Loop→Exit→St→Prop}
theorem JR {X Y:Type} {body:Code} {nn:Nat} {t:List (Nat×AV)} {m:Mem} (K KB:List Nat) (mt:X→List (Nat×AV)) (mm:X→Mem) (step:X→Option (X⊕Y)) (x0:X) (rY:cZ) {kt:List (Nat×AV)} {km:Mem} {y:Y} (hy:bR step x0=some y)
  (h0:Fits K KB kt km rY ⟨nn,t,m⟩ (mt x0) (mm x0))
  (hb:∀(x:X) (R:X→Prop) (z:X⊕Y),step x=some z→EU y R z→ou P n c l body (iE (fun s'=>s'.n=nn∧∃x' ρ,Fits K KB kt km ρ s' (mt x') (mm x')∧R x') Q) (fun d=>iE (fun _=>False) (Z d)) ⟨nn,mt x++kt,mm x++km⟩):ou P n c l (.loop body) Q Z ⟨nn,t,m⟩:=by
 obtain⟨N,hN⟩:=ES hy
 have wk:∀{s':St} {ρ:cZ} {x:X},s'.n=nn→Fits K KB kt km ρ s' (mt x) (mm x)→tV ρ s' ⟨nn,mt x++kt,mm x++km⟩:=by
  intro s' ρ x hn hf;obtain⟨n',t',m'⟩:=s';exact⟨hn,hf.EI,Bm hf.t (vM hf.k hf.EJ),Bn hf.m (vN hf.kb hf.EK)⟩
 refine ajY (X:={p:Nat×X//jV step p.1 p.2=some y}) (fun p=>⟨nn,mt p.1.2++kt,mm p.1.2++km⟩) (fun p=>p.1.1) ⟨(N,x0),hN⟩ ⟨rY,wk rfl h0⟩ ?_;rintro⟨⟨k,x⟩,hp⟩;cases k with
 |zero=>cases hp
 |succ k=>
  have:∃z,step x=some z∧EU y (fun x'=>jV step k x'=some y) z:=by
   simp only [jV] at hp;cases hs:step x with
   |none=>rw [hs] at hp;cases hp
   |some z=>
    rw [hs] at hp;cases z with
    |inl x'=>exact⟨_,rfl,hp⟩
    |inr y'=>cases hp;exact⟨_,rfl,rfl⟩
  obtain⟨z,hz,hc⟩:=this;have:=hb x (fun x'=>jV step k x'=some y) z hz hc;intro a w hs;refine wpIn_mono (this a w hs) ?_;rintro e a' w' (⟨s',cJ,hq⟩|h)
  ·refine .inl ⟨s',cJ,?_⟩;cases e with
   |normal=>
    obtain⟨hn,x',ρ,hf,hr⟩:=hq;exact⟨⟨(k,x'),hr⟩,ρ,wk hn hf,Nat.lt_succ_self _⟩
   |_=>exact hq
  ·exact .inr h
theorem JS {X Y:Type} {s:St} {rec:Loop} {ops:Array Oper} {F:St→Prop} {W:Loop→St→Prop} {k:Nat} {o:Oper} {fo:Operand} {xs:Array Operand} {gO:Array TypeId} {args:List AV} {M:Mem} {MX:X→Mem} {MY:Y→Mem} (z:X⊕Y) (ρ σ:cZ) (WX:X→Mem) (WY:Y→Mem) (hY:JP P (n -1) c l rec args M MX MY z)
  (hk:ops[k]?=some o) (ho:o.op=pg fo xs gO) (Fp:o.guard=none) (mC:s.ev fo=.sc (.func (.yield l) #[] #[])) (fW:gP [] ρ (xs.toList.map s.ev) args) (hi:iV ρ=true) (tZ:(ρ.all fun p=>(lk p.1 M).isSome)=true) (hM:eT ρ s.m M) (ni:iV σ=true)
  (akp:∀x,(σ.all fun p=>(lk p.1 (WX x)).isSome)=true) (akq:∀y,(σ.all fun p=>(lk p.1 (WY y)).isSome)=true) (hWX:∀x,eT σ (MX x) (WX x)) (hWY:∀y,eT σ (MY y) (WY y)) (hbX:∀x,vE ρ M σ (WX x)=true) (hbY:∀y,vE ρ M σ (WY y)=true) (hnX:∀x,mD s (kM ρ (WX x))=true) (hnY:∀y,mD s (kM ρ (WY y))=true)
  (hI:BL c l rec) (Fq:(M.all fun p=>Nat.ble 1000 p.1&&(Nat.ble 1100 p.1||match lk p.1 ρ with|some (some q)=>Nat.beq q p.1|_=>false))=true)
  (h1:∀x,z=.inl x→uu P n c l ops F W (k+1) (s.app o.dst ⟨.sc (.bool true),WX x++lG (et ρ),et ρ,kM ρ (WX x)⟩))
  (h2:∀y,z=.inr y→Go P ops false (W (pw rec)) (ops.toList.drop (k+1)) (s.app o.dst ⟨.sc (.bool false),WY y++lG (et ρ),et ρ,kM ρ (WY y)⟩) []):uu P n c l ops F W k s:=by
 cases z with
 |inl x=>exact Wp (L:=[]) (b:=true) (d:=pw rec) ho Fp hk mC trivial fW hi tZ hM ni (akp x) (hWX x) (hbX x) (fun h=>absurd rfl h) (hnX x) hI Fq (by rw [if_pos rfl];exact hY) (by rw [if_pos rfl];simpa using h1 x rfl)
 |inr y=>exact Wp (L:=[]) (b:=false) (d:=pw rec) ho Fp hk mC trivial fW hi tZ hM ni (akq y) (hWY y) (hbY y) (fun h=>absurd rfl h) (hnY y) hI Fq (by rw [if_neg (by simp)];exact hY) (by rw [if_neg (by simp)];exact⟨[],by simpa using h2 y rfl⟩)
end
end Go.Ab
namespace Go.Ab
open Go.RowKit
variable{P:Program}
theorem akx {fn:Func} {r:AV} {n:Nat} {t:List (Nat×AV)} {M:Mem} {c:Ctx} {a:Act} {W:World} {φ:Ph} {R:Nat→Prop} {D:Nat} (hq:Bv P fn r ⟨n,t,M⟩)
  (hn:a.tmps.size=n) (ht:∀q av,lk q t=some av→Rel W R φ av (a.tmps.getD q undef)) (hm:gX W R φ M) (l8:∀b x,φ b=some x→∃y,lk b M=some y) (fe:∀m,R m→m<W.heap.size)
  (hD:W.heap[D]?=some (.deferred (some []))) (pY:¬R D) (wh:∀n,c.R0 n→R n) (wi:∀n,R n→c.R0 n∨c.w0.heap.size≤n∨c.G n) (gY:∀n,dj φ M n→c.w0.heap.size≤n∨c.G n) (rh:Ext c.w0 W c.G) (yS:c.w0.heap.size≤D):
  ZM P fn r c {a with defers:=[{target:=.collected D,args:=#[]}]} W:=by
 have kD:cW ⟨W,dj φ M,R,φ,[{target:=.collected D,args:=#[]}]⟩ φ R ⟨n,t,M⟩ {a with defers:=[{target:=.collected D,args:=#[]}]} W:=⟨hn,ht,hm,l8,fun b k x hb hx=>.inr ⟨b,k,x,hb,hx,rfl⟩,fun _ h=>h,fun _ h=>.inl h,fe,Ext.refl _ _,rfl,fun b _=>.inr rfl⟩;have cJ:dJ ⟨W,dj φ M,R,φ,[{target:=.collected D,args:=#[]}]⟩ ⟨n,t,M⟩ {a with defers:=[{target:=.collected D,args:=#[]}]} W:=⟨φ,R,kD⟩;rcases hq with hq|⟨h,hw,hq⟩
 ·exact Fx kD hq kD.d hm hD pY wh wi gY rh yS
 ·obtain⟨mL,R3,gT⟩:=cJ.freeze hw;exact Fx gT hq gT.d hm hD pY wh wi gY rh yS
theorem sy {X Y:Type} {x:X} {MX:X→Mem} {MY:Y→Mem} {M:Mem} {s:St} (h:po M (MX x) s):BO (.inl x) MX MY M .normal s:=h
theorem ux {X Y:Type} {y:Y} {MX:X→Mem} {MY:Y→Mem} {M:Mem} {s:St} (h:po M (MY y) s):BO (.inr y) MX MY M .ret s:=h
theorem BP {F:St→Prop} {s:St} (h:F s):JB F .ret s:=h
theorem aky {m:Mem} {ρ:cZ} {b ty sz:Nat} {e:AV} {ys:List AV} (h:lk b m=some (some ⟨ty,sz,[e]⟩)) (hy:ys=e.cells) (hn:(ys.all fp)=true):bX m ρ (.ref b 0 0) (.vp ys):=by
 simp only [bX,Em,h];exact⟨trivial,trivial,e,rfl,hy,fun j y hj=>List.all_eq_true.1 hn y (List.mem_of_getElem? hj)⟩
def alive (ρ:cZ) (M:Mem):Bool:=ρ.all fun p=>match lk p.1 M with
 |some (some _)=>true
 |_=>false
def JT (ln ρ:cZ):Bool:=ln.all fun p=>Nat.blt p.1 1100&&(match lk p.1 ρ,p.2 with
 |some (some q),some q'=>Nat.beq q q'
 |_,_=>false)
theorem JU {ρ:cZ} {M:Mem} (h:alive ρ M=true) {b:Nat} {x:Option Nat} (hb:lk b ρ=some x):∃k,lk b M=some (some k):=by
 have:=List.all_eq_true.1 h _ (gI hb);simp only at this;split at this
 ·rename_i k hk;exact⟨k,hk⟩
 ·cases this
theorem akz {ln ρ:cZ} (h:JT ln ρ=true) {b:Nat} {x:Option Nat} (hb:lk b ln=some x):b<1100∧∃q,x=some q∧lk b ρ=some (some q):=by
 have:=List.all_eq_true.1 h _ (gI hb);simp only [Bool.and_eq_true] at this;obtain⟨h1,h2⟩:=this;refine⟨by simpa using h1,?_⟩;cases hl:lk b ρ with
 |none=>simp [hl] at h2
 |some o=>
  cases o with
  |none=>simp [hl] at h2
  |some q=>
   cases x with
   |none=>simp [hl] at h2
   |some q'=>
    simp only [hl] at h2;have:=Nat.eq_of_beq_eq_true h2;subst this;exact⟨q,rfl,rfl⟩
theorem akA {ln ρ:cZ} {φ φ':Ph} (h:JT ln ρ=true) (hh:∀b q,b<1100→lk b ln=some (some q)→φ' b=φ.via ρ b):∀b x,φ.via ln b=some x→φ' b=some x:=by
 intro b x hb;unfold Ph.via at hb;cases hq:lk b ln with
 |none=>rw [hq] at hb;cases hb
 |some y=>
  obtain⟨h1,q,rfl,h2⟩:=akz h hq;rw [hq] at hb;rw [hh b q h1 hq];simp only [Ph.via,h2];exact hb
theorem JV {X Y:Type} {lim:Nat} {Q:Exit→St→Prop} {fn FB:Func} {r:AV} {n nn gf p1 p2 bid:Nat} {t t0:List (Nat×AV)} {m M:Mem} {g:Operand} {assign body rest WB:Code} {sA caps':List AV} (ts:Nat→List (Nat×AV)) (ρ ln:cZ) (z:X⊕Y) (MX:X→Mem) (MY:Y→Mem)
  (hg:(⟨n,t,m⟩:St).ev g=.db gf [] sA) (hf:P.funcs[gf]?=some FB) (hb:FB.body=some WB) (wj:FB.ntmps=nn) (sg:FB.results=#[]) (eg:∀args w,(callFunc gf args).run P w=.ok (.enter gf args) w) (hlen:Nat.ble (caps'.length+1) nn=true)
  (hM:tY M=true) (hi:iV ρ=true) (hk:(ρ.all fun p=>(lk p.1 M).isSome)=true) (hw:eT ρ m M) (WC:gP [] ρ sA caps') (JW:pd ln ⟨n,t,m⟩ t0) (akC:JT ln ρ=true) (n_:alive ln M=true) (bV:∀x,alive ln (MX x)=true) (hy1:∀y,alive ln (MY y)=true)
  (fE:∀l,pV 0 (.sc (.func (.yield l) #[] #[])::caps')=some (ts l))
  (EY:∀(c:Ctx) (l k:Nat) (rec:Loop),BL c l rec→rec.state=.ready→rec.pending=none→rec.params=#[p1,p2]→rec.assign=assign→rec.body=body→rec.tmps.size=n→
   (∀(args:List AV) (Mx:Mem),alive ln Mx=true→∀w vs φ R,rf c l rec args Mx w vs φ R→∀q av,lk q t0=some av→Rel w R φ av (rec.tmps.getD q undef))→
   ou P k c l WB (pT fun s=>∃M',(∃x,z=.inl x∧M'=MX x)∧po M M' s) (fun d=>pT fun s=>∃M',(d=pw rec∧∃y,z=.inr y∧M'=MY y)∧po M M' s) ⟨nn,ts l,M⟩)
  (JC:∀x,z=.inl x→∀lim,dW P lim rest (JB (Bv P fn r)) ⟨n,t0,MX x⟩)
  (JD:∀y,z=.inr y→Bv P fn r ⟨n,t0,MY y⟩):
  Wj P (ZM P fn r) lim (.block bid (.rangeFunc g #[p1,p2] assign body)) rest Q ⟨n,t,m⟩:=by
 intro c ep rb a w ⟨yV,Rs,hs⟩;have rg:=hs.ev g;rw [hg] at rg;obtain⟨m1,m2,m3⟩:=n5 hs.m hi hk hw;generalize hgv:a.eval g=vg at rg;cases rg with
 |@db _ _ _ _ fv cv Bi vI D' vl=>
  have e1:fv=#[]:=by apply Array.eq_empty_of_size_eq_zero;simpa using Bi.symm
  subst e1
  have gY:∀j,dj (yV.via ρ) M j→c.w0.heap.size≤j∨c.G j:=by
   rintro j ⟨b,k',h',e5,e6,rfl⟩;obtain⟨b0,k0,g1,g2,g3⟩:=m3 b k' h' e5 e6;exact hs.fresh b0 k0 h' g2 g3
  have slot:∀{W:World} {φ':Ph} {R':Nat→Prop},(∀j,Rs j→W.heap[j]?=w.heap[j]?)→(∀j,Rs j→R' j)→(∀b q,b<1100→lk b ln=some (some q)→φ' b=yV.via ρ b)→∀q av,lk q t0=some av→Rel W R' φ' av (a.tmps.getD q undef):=by
   intro W φ' R' h1 h2 h3 q av hq;have:=mz hs.m (m:=[]) (fun _ h=>h) (fun b k h hb=>by simp [lk] at hb) (hs.get q) (Ep JW q av (gI hq));exact this.mono h1 h2 (akA akC h3)
  have JX:∀{W:World} {φ':Ph} {R':Nat→Prop} {M':Mem},gS w (yV.via ρ) Rs M M' W φ' R'→∀j,Rs j→W.heap[j]?=w.heap[j]?:=by
   intro W φ' R' M' hp j hj;refine hp.ext.block j (hs.Rb j hj) ?_;rintro⟨b,k',h',e5,e6,rfl⟩;exact m1.ga b k' h' e5 e6 hj
  have WD:∀{W:World} {φ':Ph} {R':Nat→Prop} {M':Mem},alive ln M'=true→gS w (yV.via ρ) Rs M M' W φ' R'→∀q av,lk q t0=some av→Rel W R' φ' av (a.tmps.getD q undef):=by
   intro W φ' R' M' akF hp;refine slot (JX hp) hp.R0 (fun b q _ hq=>?_);obtain⟨k1,tO⟩:=JU n_ hq;obtain⟨k2,kh⟩:=JU akF hq;exact hp.gi b k1 k2 tO kh
  refine wp_block (wpIn_wide (n:=0)|>.1 ?_);refine aj7 (FX:=fun M'=>∃x,z=.inl x∧M'=MX x) (FZ:=fun M'=>∃y,z=.inr y∧M'=MY y) hgv eg m1 m2 hs.Rb ?_ ?_ ?_ (fun M' _ b k k' h1 _=>⟨k,h1⟩)
  ·intro W1 rec asq me hl px lC
   have fW:∀(i:Nat) (c:AV) (v:Value),(AV.sc (.func (.yield (w.heap.size+1)) #[] #[])::caps')[i]?=some c→(#[Value.func (.yield (w.heap.size+1)) #[] #[]]++cv)[i]?=some v→Rel W1 Rs (yV.via ρ) c v:=by
    intro i av v h1 h2;obtain⟨g1,g2⟩:=l0 WC;cases i with
    |zero=>
     simp at h1
     have vQ:v=.func (.yield (w.heap.size+1)) #[] #[]:=by
      rw [Array.getElem?_append_left (by simp)] at h2;simpa using h2.symm
     subst h1;subst vQ;exact .sc rfl
    |succ i=>
     have nT:caps'[i]?=some av:=by simpa using h1
     have vQ:cv[i]?=some v:=by
      rw [Array.getElem?_append_right (by simp)] at h2;simpa using h2
     have cn:=(List.getElem?_eq_some_iff.1 nT).1;have hx:sA[i]?=some (sA[i]'(by omega)):=List.getElem?_eq_getElem (by omega)
     have:=mz hs.m (m:=[]) (fun _ h=>h) (fun b k h hb=>by simp [lk] at hb) (vl i _ v hx vQ) (g2 i _ av hx nT);exact this.mono (JX px) (fun _ h=>h) (fun _ _ h=>h)
   have akG:(AV.sc (.func (.yield (w.heap.size+1)) #[] #[])::caps').length=(#[Value.func (.yield (w.heap.size+1)) #[] #[]]++cv).size:=by
    have:=(l0 WC).1;simp;omega
   have vn:¬dj (yV.via ρ) M (w.heap.size+1):=fun q=>by
    obtain⟨C,t,hC⟩:=px.mem.cells q;rw [hl] at hC;cases hC
   refine CallsIn.mono (aj6 (P:=P) (n:=0 -1) (l:=w.heap.size+1) (rec:=rec) (FX:=fun M'=>∃x,z=.inl x∧M'=MX x) (FZ:=fun d M'=>d=pw rec∧∃y,z=.inr y∧M'=MY y) hf hb wj (by simpa using hlen) hM (fE _) sg akG fW px.mem m2 px.Rb ?_) ?_
   ·refine EY _ _ _ rec ⟨hl,lC,vn,fun j hj=>⟨px.Rb j hj,fun⟨b,k,x,h1,h2,h3⟩=>m1.ga b k x h1 h2 (h3▸hj)⟩⟩ (by rw [me]) (by rw [me]) (by rw [me]) (by rw [me]) (by rw [me]) (by rw [me];exact hs.n) ?_;intro args Mx akH W' vs φ R hp;rw [show rec.tmps=a.tmps by rw [me]]
    refine slot (fun j hj=>(hp.same j hj).trans (JX px j hj)) hp.R0 (fun b q yh hq=>?_);obtain⟨k2,kh⟩:=JU akH hq;exact hp.home b k2 yh kh
   ·rintro e W2 ⟨h1,⟨M',φ',R',hF,hp⟩|⟨d,M',φ',R',⟨rfl,hF⟩,hp⟩⟩
    ·exact⟨h1,.inl ⟨M',φ',R',hF,hp⟩⟩
    ·exact⟨h1,.inr ⟨M',φ',R',hF,hp⟩⟩
  ·rintro D W M' φ' R' ⟨x,hz,rfl⟩ hp JY pY hD;show rest.wp P _ _ W
   rw [hs.d,rb];refine aj' (JC x hz _) (a:=a) (φ:=φ') (R:=R') hs.n (WD (bV x) hp) hp.mem hp.gM hp.Rb hD pY (fun j hj=>hp.R0 j (hs.R0 j hj)) (fun j hj=>?_) (fun j hj=>?_) (hs.ext.trans hp.ext fun i hi hg=>?_) (Nat.le_trans hs.ext.size JY)
   ·rcases hp.Rn j hj with q|q|q
    ·exact hs.Rn j q
    ·exact .inr (.inl (Nat.le_trans hs.ext.size q))
    ·exact .inr (gY j q)
   ·obtain⟨b,k',h',e5,e6,rfl⟩:=hj;rcases hp.fresh b k' h' e5 e6 with q|q
    ·exact .inl (Nat.le_trans hs.ext.size q)
    ·exact gY _ q
   ·rcases gY i hg with q|q
    ·exact absurd q (Nat.not_le.2 hi)
    ·exact q
  ·rintro D W M' φ' R' ⟨y,hz,rfl⟩ hp JY pY hD;refine .inr ⟨rfl,?_⟩;rw [hs.d,rb];refine akx (JD y hz) (a:=a) (φ:=φ') (R:=R') hs.n (WD (hy1 y) hp) hp.mem hp.gM hp.Rb hD pY (fun j hj=>hp.R0 j (hs.R0 j hj)) (fun j hj=>?_) (fun j hj=>?_) (hs.ext.trans hp.ext fun i hi hg=>?_) (Nat.le_trans hs.ext.size JY)
   ·rcases hp.Rn j hj with q|q|q
    ·exact hs.Rn j q
    ·exact .inr (.inl (Nat.le_trans hs.ext.size q))
    ·exact .inr (gY j q)
   ·obtain⟨b,k',h',e5,e6,rfl⟩:=hj;rcases hp.fresh b k' h' e5 e6 with q|q
    ·exact .inl (Nat.le_trans hs.ext.size q)
    ·exact gY _ q
   ·rcases gY i hg with q|q
    ·exact absurd q (Nat.not_le.2 hi)
    ·exact q
theorem akI {c:Ctx} {l n:Nat} {rec:Loop} {p1 p2:Nat} {a1 a2:AV} {t0:List (Nat×AV)} {Mx:Mem} (hp:rec.params=#[p1,p2]) (hn:rec.tmps.size=n) (h1:Nat.blt p1 n=true) (h2:Nat.blt p2 n=true) (Bg:Nat.beq p1 p2=false) (WE:(t0.all fun q=>!Nat.beq q.1 p1&&!Nat.beq q.1 p2)=true)
  (hs:∀w vs φ R,rf c l rec [a1,a2] Mx w vs φ R→∀q av,lk q t0=some av→Rel w R φ av (rec.tmps.getD q undef)):
  ∀w vs φ R,rf c l rec [a1,a2] Mx w vs φ R→∀q av,lk q ((p1,a1)::(p2,a2)::t0)=some av→Rel w R φ av (((rec.params.zip vs).foldl (fun t (p,v)=>t.setIfInBounds p v) rec.tmps).getD q undef):=by
 intro w vs φ R hy q av hq;have hlen:=hy.len
 obtain⟨v1,v2,rfl⟩:∃v1 v2,vs=#[v1,v2]:=by
  have h2:vs.size=2:=by simpa using hlen.symm
  refine⟨vs[0],vs[1],?_⟩;apply Array.ext
  ·simpa using h2
  ·intro i hi ng;have:i=0∨i=1:=by simp at ng;omega
   rcases this with rfl|rfl<;>rfl
 have k1:p1<n:=by simpa using h1
 have k2:p2<n:=by simpa using h2
 have k12:p1≠p2:=by intro e;subst e;simp at Bg
 rw [hp];have hz:(#[p1,p2].zip #[v1,v2]).foldl (fun t (x:Tmp×Value)=>t.setIfInBounds x.1 x.2) rec.tmps=(rec.tmps.setIfInBounds p1 v1).setIfInBounds p2 v2:=by simp
 show Rel w R φ av (((#[p1,p2].zip #[v1,v2]).foldl (fun t (x:Tmp×Value)=>t.setIfInBounds x.1 x.2) rec.tmps).getD q undef)
 rw [hz];rw [eo] at hq;by_cases e1:q=p1
 ·rw [if_pos e1] at hq;cases hq
  have:((rec.tmps.setIfInBounds p1 v1).setIfInBounds p2 v2).getD q undef=v1:=by
   subst e1;simp [Array.getD_eq_getD_getElem?,Ne.symm k12,hn,k1]
  rw [this];exact hy.rel 0 _ v1 rfl rfl
 ·rw [if_neg e1,eo] at hq;by_cases e2:q=p2
  ·rw [if_pos e2] at hq;cases hq
   have:((rec.tmps.setIfInBounds p1 v1).setIfInBounds p2 v2).getD q undef=v2:=by
    subst e2;simp [Array.getD_eq_getD_getElem?,hn,k2]
   rw [this];exact hy.rel 1 _ v2 rfl rfl
  ·rw [if_neg e2] at hq
   have:((rec.tmps.setIfInBounds p1 v1).setIfInBounds p2 v2).getD q undef=rec.tmps.getD q undef:=by
    simp [Array.getD_eq_getD_getElem?,Ne.symm e1,Ne.symm e2]
   rw [this];exact hs w _ φ R hy q av hq
theorem JZ {X Y:Type} {n l nn p1 p2:Nat} {c:Ctx} {rec:Loop} {a1 a2:AV} {t0:List (Nat×AV)} {M:Mem} {assign body:Code} (z:X⊕Y) (MX:X→Mem) (MY:Y→Mem) (jG:rec.state=.ready) (yq:rec.pending=none) (hp:rec.params=#[p1,p2]) (has:rec.assign=assign) (hbo:rec.body=body) (hM:tY M=true) (ed:rec.tmps.size=nn) (h1:Nat.blt p1 nn=true) (h2:Nat.blt p2 nn=true) (Bg:Nat.beq p1 p2=false) (WE:(t0.all fun q=>!Nat.beq q.1 p1&&!Nat.beq q.1 p2)=true)
  (hs:∀w vs φ R,rf c l rec [a1,a2] M w vs φ R→∀q av,lk q t0=some av→Rel w R φ av (rec.tmps.getD q undef))
  (JQ:∀lim,ll P lim assign (iE (ll P lim body (BO z MX MY M)) (fun _ _=>False)) ⟨nn,(p1,a1)::(p2,a2)::t0,M⟩):JP P n c l rec [a1,a2] M MX MY z:=
 akl z MX MY jG yq (by rw [hp];rfl) hM ed (akI hp ed h1 h2 Bg WE hs) (by rw [has,hbo];exact JQ)
end Go.Ab
namespace Go.Ab
open Go.RowKit
section
variable{P:Program} {o:Oper} {s:St}
theorem akL {t e b off len:Nat} {x:Operand} {D E:af} {k:fc} (ho:o.op=lZ .clear #[x] #[t]) (h:aF P t=some D) (hk:D.k=.slice e) (hE:aF P e=some E) (hx:s.ev x=.arr b off len) (hb:lk b s.m=some (some k)) (HQ:k.cy=E.size) (hl:off+len≤k.xs.length) (asr:0<len)
  (hc:E.zero.cells.all AV.k9=true):di P o s ⟨.cz [],[(b,some ⟨k.ty,k.cy,k.xs.take off++List.replicate len E.zero++k.xs.drop (off+len)⟩)],[b],[]⟩:=by
 intro s' _ ca gk _;refine tJ fun c φ R a w hs=>?_
 have ig:lk b s'.m=some (some k):=by rw [gk b (by simp)];exact hb
 have h1:=hs.ev x;rw [ca x (rV ho x (by simp)),hx] at h1;obtain⟨i,z,u,hi,jv,_,ed,A1,hzero,jc,_⟩:=kB hE;have BQ:=xU w R φ z;generalize hq:a.eval x=q at h1;cases h1 with
 |kA=>omega
 |@arr _ _ _ _ cap hm gF lE tR=>
  obtain⟨oh,gm,hr⟩:=hs.m.rel b k ig;rw [gF] at gm;cases gm;have hr0:=hr;obtain⟨r1,r2,r3,r4,C,r5,r6,r7⟩:=hr;have jF:hm.cy=E.size:=by rw [←r1,HQ]
  obtain⟨news,FC⟩:∃news,news=(Builtin.zeroCells z.cells len).toList:=⟨_,rfl⟩
  have pb:news.length=len*hm.cy:=by rw [FC,jF];simp [Builtin.zeroCells,jc]
  have k_:∀i j,i<len→j<hm.cy→news[i*hm.cy+j]?=z.cells[j]?:=by
   intro i j h1 h2;rw [FC,Array.getElem?_toList,jF];have:=HH z.cells len E.size jc i j h1 (by omega);unfold Builtin.zeroCells;rw [jc] at this⊢;exact this
  have HL:∀v∈news,v.oneCell'=true:=by
   intro v hv;obtain⟨q,hq,rfl⟩:=List.mem_iff_getElem.1 hv;have e1:q=(q/hm.cy)*hm.cy+q%hm.cy:=by rw [Nat.mul_comm];exact(Nat.div_add_mod q hm.cy).symm
   have hj:=Nat.mod_lt q r2;have ng:q/hm.cy<len:=by rw [Nat.div_lt_iff_lt_mul r2];omega
   have e2:=k_ (q/hm.cy) (q%hm.cy) ng hj;rw [←e1,List.getElem?_eq_getElem hq] at e2;have fk:q%hm.cy<(o9 z).cells.length:=by rw [BQ.1,jc];omega
   have:=BQ.2 (q%hm.cy) _ news[q] (List.getElem?_eq_getElem fk) e2.symm;rw [hzero] at hc;exact this.Hs (List.all_eq_true.1 hc _ (List.getElem_mem _))
  have kg:off*hm.cy+news.length≤C.toList.length:=by
   have Hy:C.toList.length=C.size:=by simp
   rw [Hy,r6,pb];have:=Nat.mul_le_mul_right hm.cy (show off+len≤hm.cap by omega)
   rw [Nat.add_mul] at this;omega
  have gn:(Builtin.clear_ #[t] o.type #[.slice (some ⟨hm.cY,off*hm.cy,none⟩) len cap]).run P w=.ok (.tuple #[]) (w.setRow hm.cY (C.toList.take (off*hm.cy)++news++C.toList.drop (off*hm.cy+news.length)).toArray):=by
   have jG:=run_storeCells_at (P:=P) hm.cY (off*hm.cy) k.ty news 0 C w r5 (by simpa using kg) HL;rw [Nat.add_zero,FC] at jG;obtain⟨m,rfl⟩:∃m,len=m+1:=⟨len -1,by omega⟩
   simp [Builtin.clear_,run_underlying (o_ h hk),zeroValue,typeInfo,hi,jv,jG,FC]
  have lC:=hs.m.ga b k hm ig gF;have xZ:∀q,R q→(w.setRow hm.cY (C.toList.take (off*hm.cy)++news++C.toList.drop (off*hm.cy+news.length)).toArray).heap[q]?=w.heap[q]?:=fun q hq=>setRow_other w hm.cY q _ (fun e=>lC (e▸hq))
  have akM:∀i,(k.xs.take off++List.replicate len E.zero++k.xs.drop (off+len))[i]?=if off≤i∧i<off+len then some E.zero else k.xs[i]?:=fun i=>by
   have:=ac9 k.xs (List.replicate len E.zero) off len i hl (by simp);rw [List.take_of_length_le (l:=List.replicate len E.zero) (by simp)] at this;rw [this];split
   ·rw [List.getElem?_replicate,if_pos (by omega)]
   ·rfl
  have nY:=hs.write (b:=b) (k:=k) (k':=⟨k.ty,k.cy,k.xs.take off++List.replicate len E.zero++k.xs.drop (off+len)⟩) (x:=hm) ig gF (C.toList.take (off*hm.cy)++news++C.toList.drop (off*hm.cy+news.length)).toArray
   ⟨r1,r2,by simp;omega,r4,_,setRow_heap w hm.cY C _ k.ty _ r5,by rw [Hx _ _ _ kg,←r6];simp,fun i x hx=>by
    dsimp only at hx;rw [akM] at hx;by_cases hi:off≤i∧i<off+len
    ·rw [if_pos hi] at hx;cases hx;rw [hzero];refine⟨by rw [BQ.1,jc,jF],fun j c' hj=>?_⟩;have fk:j<hm.cy:=by rw [jF,←jc,←BQ.1];exact(List.getElem?_eq_some_iff.1 hj).1
     have J0:j<z.cells.size:=by omega
     refine⟨z.cells[j]'J0,?_,(BQ.2 j c' _ hj (Array.getElem?_eq_getElem J0)).mono xZ (fun _ h=>h) (fun _ _ h=>h)⟩
     rw [xW _ _ _ kg];have e1:off*hm.cy≤i*hm.cy+j:=by have:=Nat.mul_le_mul_right hm.cy hi.1;omega
     have e2:i*hm.cy+j -off*hm.cy=(i -off)*hm.cy+j:=by rw [Nat.sub_mul];have:=Nat.mul_le_mul_right hm.cy hi.1;omega
     have e3:(i -off)*hm.cy+j<len*hm.cy:=tL (by omega) fk;rw [if_pos ⟨e1,by rw [pb];omega⟩,e2,k_ _ _ (by omega) fk];exact Array.getElem?_eq_getElem J0
    ·rw [if_neg hi] at hx;obtain⟨q1,q2⟩:=r7 i x hx;refine⟨q1,fun j c' hj=>?_⟩;obtain⟨u,hu,il⟩:=q2 j c' hj;have fk:j<hm.cy:=by rw [←q1];exact(List.getElem?_eq_some_iff.1 hj).1
     refine⟨u,?_,il.mono xZ (fun _ h=>h) (fun _ _ h=>h)⟩;rw [xW _ _ _ kg,if_neg]
     ·rw [Array.getElem?_toList];exact hu
     ·rintro⟨g1,g2⟩;rw [pb] at g2;rcases Nat.lt_or_ge i off with g|g
      ·have:=tL g fk;omega
      ·have:=Nat.mul_le_mul_right hm.cy (show off+len≤i by omega)
       rw [Nat.add_mul] at this;omega⟩
  refine⟨.tuple #[],_,φ,R,?_,cW.app (s:=s') (m:=(b,some ⟨k.ty,k.cy,k.xs.take off++List.replicate len E.zero++k.xs.drop (off+len)⟩)::s'.m) nY o.dst (.cz rfl (by simp))⟩;simp [vm ho,builtin,hq,gn]
variable{tt:TT} {ops:Array Oper} {draw:Bool} {Q:St→Prop} {acc:List (Option ec)} {l:List Oper} {n:Nat} {t:List (Nat×AV)} {m:Mem}
def sB {α:Type} (z:α) (xs:List α) (off len:Nat):List α:=xs.take off++List.replicate len z++xs.drop (off+len)
theorem akN {α:Type} {z:α} {xs zs:List α} {off len:Nat} (h:sB z xs off len=zs) (hc:(Nat.ble (off+len) xs.length&&Nat.blt 0 len)=true):zs.length=xs.length:=by
 subst h;simp only [Bool.and_eq_true] at hc;have:=Nat.le_of_ble_eq_true hc.1;unfold sB;simp;omega
theorem akO {α:Type} {o:Oper} {ty e b off len bt bz:Nat} {t':List (Nat×AV)} {m':Mem} {x:Operand} {D E:af} (enc:α→AV) (z:α) (xs zs:List α) (jc:sB z xs off len=zs) (hc:(Nat.ble (off+len) xs.length&&Nat.blt 0 len)=true) (ht:fK P tt) (hg:eG ops ⟨n,t,m⟩ o=some true) (ho:o.op=lZ .clear #[x] #[ty]) (hD:lk ty tt=some D) (hk:D.k=.slice e) (hE:lk e tt=some E) (hzE:E.zero=enc z)
  (hx:(⟨n,t,m⟩:St).ev x=.arr b off len) (hb:lk b m=some (some ⟨bt,bz,xs.map enc⟩)) (hbz:Nat.beq bz E.size=true) (hcz:E.zero.cells.all AV.k9=true) (hp:fX n t o.dst (.cz [])=some t') (hm:l9 [(b,some ⟨bt,bz,zs.map enc⟩)] m=some m')
  (h:Go P ops draw Q l ⟨n,t',m'⟩ (some ⟨.cz [],[(b,some ⟨bt,bz,zs.map enc⟩)],[b],[]⟩::acc)):Go P ops draw Q (o::l) ⟨n,t,m⟩ acc:=by
 subst jc;simp only [Bool.and_eq_true] at hc;have h1:=Nat.le_of_ble_eq_true hc.1;have h2:0<len:=by simpa using hc.2
 have hA:=akL (P:=P) (s:=⟨n,t,m⟩) ho (ht _ _ hD) hk (ht _ _ hE) hx hb (Nat.eq_of_beq_eq_true hbz) (by simpa using h1) h2 hcz;rw [hzE] at hA
 have e:(xs.map enc).take off++List.replicate len (enc z)++(xs.map enc).drop (off+len)=(sB z xs off len).map enc:=by
  unfold sB;simp [List.map_take,List.map_drop]
 dsimp only at hA;rw [e] at hA;exact eA hg hA rfl hp hm h
theorem J1 {α:Type} {o:Oper} {ty el b bt bz:Nat} {t':List (Nat×AV)} {x y:Operand} {D E:af} {k:IntKind} (enc:α→AV) (xs:List α) (lo hi i:Int) (e:α) (hc:(decide (0≤lo)&&(decide (0≤i)&&decide (i<hi -lo)))=true) (he:aK xs (lo+i)=some e) (ht:fK P tt) (hg:eG ops ⟨n,t,m⟩ o=some true) (ho:o.op=.indexAddr ty x y) (hD:lk ty tt=some D) (hk:D.k=.slice el) (hE:lk el tt=some E)
  (hx:(⟨n,t,m⟩:St).ev x=.arr b lo.toNat (hi.toNat -lo.toNat)) (hy:(⟨n,t,m⟩:St).ev y=.sc (.int k i)) (hb:lk b m=some (some ⟨bt,bz,xs.map enc⟩)) (hz:Nat.beq bz E.size=true) (hp:fX n t o.dst (.ref b (lo+i).toNat 0)=some t')
  (h:Go P ops draw Q l ⟨n,t',m⟩ (some ⟨.ref b (lo+i).toNat 0,[],[b],[]⟩::acc)):Go P ops draw Q (o::l) ⟨n,t,m⟩ acc:=by
 simp only [Bool.and_eq_true,decide_eq_true_eq] at hc;have hA:=HC (P:=P) (o:=o) (s:=⟨n,t,m⟩) ho (ht _ _ hD) hk (ht _ _ hE) hx hy hb hz hc.2.1 (by omega);rw [show lo.toNat+i.toNat=(lo+i).toNat by omega] at hA
 exact eA hg hA rfl hp rfl h
end
def J2 (P:Program) (f:Nat) (args:List AV) (M:Mem) (r:AV) (M':Mem):Prop:=
 ∀(u:FrameMode) (w:World) (vs:Array Value) (φ:Ph) (R:Nat→Prop),args.length=vs.size→(∀(i:Nat) (c:AV) (v:Value),args[i]?=some c→vs[i]?=some v→Rel w R φ c v)→gX w R φ M→
  (∀b x,φ b=some x→∃y,lk b M=some y)→(∀n,R n→n<w.heap.size)→
  CallsD P f vs u w fun e u' w'=>u'=u∧∃v φ' R',e=.returned v∧Rel w' R' φ' r v∧gX w' R' φ' M'∧(∀b k h,lk b M'=some (some k)→φ' b=some (some h)→w.heap.size≤h.cY∨dj φ M h.cY)∧
   (∀b k k',lk b M=some (some k)→lk b M'=some (some k')→φ' b=φ b)∧(∀n,R n→R' n)∧(∀n,R' n→R n∨w.heap.size≤n∨dj φ M n)∧(∀n,R' n→n<w'.heap.size)∧Ext w w' (dj φ M)
def WG (φ:Ph) (R:Nat→Prop) (M:Mem) (r:AV) (M':Mem) (w:World) (e:Ending) (w':World):Prop:=
 ∃v φ' R',e=.returned v∧Rel w' R' φ' r v∧gX w' R' φ' M'∧(∀b k h,lk b M'=some (some k)→φ' b=some (some h)→w.heap.size≤h.cY∨dj φ M h.cY)∧
   (∀b k k',lk b M=some (some k)→lk b M'=some (some k')→φ' b=φ b)∧(∀n,R n→R' n)∧(∀n,R' n→R n∨w.heap.size≤n∨dj φ M n)∧(∀n,R' n→n<w'.heap.size)∧Ext w w' (dj φ M)
section
variable{P:Program}
theorem akS {f n:Nat} {fn:Func} {body:Code} {args:List AV} {M:Mem} {r:AV} {M':Mem} {t:List (Nat×AV)} (hf:P.funcs[f]?=some fn) (hb:fn.body=some body) (hn:fn.ntmps=n) (hlen:Nat.ble args.length n=true) (hM:tY M=true) (ht:pV 0 args=some t)
  (h:∀lim,dW P lim body (pT (n9 P fn M r M')) ⟨n,t,M⟩):J2 P f args M r M':=by
 intro u w vs φ R n_ fW gG l8 fe;have hle:args.length≤n:=Nat.le_of_ble_eq_true hlen;refine(callsD_of_wp (R:=WG φ R M r M' w) hf hb ?_).mono (fun _ _ _ h=>h)
 have kD:cW ⟨w,dj φ M,R,φ,[]⟩ φ R ⟨n,t,M⟩ {tmps:=vs++Array.replicate (fn.ntmps -vs.size) undef,defers:=[]} w:=by
  refine⟨by simp [hn];omega,fun t av qV=>?_,gG,l8,fun b k x hb hx=>.inr ⟨b,k,x,hb,hx,rfl⟩,fun _ h=>h,fun _ h=>.inl h,fe,Ext.refl _ _,rfl,fun b _=>.inr rfl⟩;rw [←yl ht] at qV;obtain⟨_,h2⟩:=yc args 0 t av qV;simp only [Nat.sub_zero] at h2;have cn:t<vs.size:=by rw [←n_];exact(List.getElem?_eq_some_iff.1 h2).1
  have:=fW t av vs[t] h2 (by simp [cn]);simpa [Array.getD_eq_getD_getElem?,Array.getElem?_append_left cn,cn] using this
 refine wp_mono (h w.heap.size ⟨w,dj φ M,R,φ,[]⟩ rfl _ w ⟨φ,R,kD⟩) ?_;rintro e a' w' ⟨s',⟨gH,R1,dL⟩,hq⟩
 have fin:n9 P fn M r M' s'→a'.defers=[]∧∃v,(results fn a'.tmps).run P w'=.ok v w'∧WG φ R M r M' w (.returned v) w':=by
  rintro⟨gZ,ρ,f1,f2,f3,f4,f5⟩;obtain⟨v,g1,g2⟩:=yb dL f1;obtain⟨i1,i2⟩:=vC f2;obtain⟨m1,m2,m3⟩:=n5 dL.m i1 i2 f5;refine⟨dL.d,v,g1,v,gH.via ρ,R1,rfl,mz dL.m (m:=[]) (fun _ h=>h) (fun b k h hb=>by simp [lk] at hb) g2 f4,m1,fun b k x hb hx=>?_,fun b k k' h1 h2=>?_,dL.R0,dL.Rn,dL.Rb,dL.ext⟩
  ·obtain⟨b0,k0,_,e1,e2⟩:=m3 b k x hb hx;exact dL.fresh b0 k0 x e1 e2
  ·have nV:1000≤b:=Nat.le_of_ble_eq_true (by simpa using List.all_eq_true.1 hM _ (gI h1));obtain⟨oh,e1,_⟩:=m1.rel b k' h2;rcases Ib f2 dL.gi b nV with h|h
   ·rw [h] at e1;cases e1
   ·exact h
 cases e with
 |normal=>exact fin hq
 |ret=>exact fin hq
 |_=>exact hq.elim
def BR (c:Ctx) (r:AV) (e:Ending) (w':World):Prop:=
 ∃v φ' R',e=.returned v∧Rel w' R' φ' r v∧gX w' R' φ' []∧(∀n,c.R0 n→R' n)∧(∀n,R' n→c.R0 n∨c.w0.heap.size≤n)∧(∀n,R' n→n<w'.heap.size)∧Ext c.w0 w' (fun _=>False)
def FD (P:Program) (fn:Func) (r:AV) (lim:Nat) (code:Code) (s:St):Prop:=
 ∀c:Ctx,c.w0.heap.size=lim→c.ds=[]→(∀n,¬c.G n)→∀(a:Act) (w:World),dJ c s a w→code.wp P (bodyPostD P fn (BR c r)) a w
theorem akT {f n:Nat} {fn:Func} {body:Code} {args:List AV} {r:AV} {t:List (Nat×AV)} (hf:P.funcs[f]?=some fn) (hb:fn.body=some body) (hn:fn.ntmps=n) (hlen:Nat.ble args.length n=true) (ht:pV 0 args=some t)
  (h:∀lim,FD P fn r lim body ⟨n,t,[]⟩):Holds P f args [] r []:=by
 intro w vs φ R n_ fW gG l8 fe;have hle:args.length≤n:=Nat.le_of_ble_eq_true hlen;have ot:∀{b:Nat} {k:Option fc},lk b ([]:Mem)=some k→False:=fun h=>by simp [lk] at h
 have kD:cW ⟨w,dj φ [],R,φ,[]⟩ φ R ⟨n,t,[]⟩ {tmps:=vs++Array.replicate (fn.ntmps -vs.size) undef,defers:=[]} w:=by
  refine⟨by simp [hn];omega,fun t av qV=>?_,gG,l8,fun b k x hb hx=>.inr ⟨b,k,x,hb,hx,rfl⟩,fun _ h=>h,fun _ h=>.inl h,fe,Ext.refl _ _,rfl,fun b _=>.inr rfl⟩;rw [←yl ht] at qV;obtain⟨_,h2⟩:=yc args 0 t av qV;simp only [Nat.sub_zero] at h2;have cn:t<vs.size:=by rw [←n_];exact(List.getElem?_eq_some_iff.1 h2).1
  have:=fW t av vs[t] h2 (by simp [cn]);simpa [Array.getD_eq_getD_getElem?,Array.getElem?_append_left cn,cn] using this
 refine(calls_of_wp_defers hf hb (h w.heap.size ⟨w,dj φ [],R,φ,[]⟩ rfl rfl (fun n ⟨b,k,x,hb,_⟩=>ot hb) _ w ⟨φ,R,kD⟩)).mono ?_;rintro e w' ⟨v,φ',R',rfl,z1,z2,z3,z4,z5,z6⟩;exact⟨v,φ',R',rfl,z1,z2,fun b k x hb _=>(ot hb).elim,fun b k k' hb _=>(ot hb).elim,z3,fun n hn=>(z4 n hn).imp_right .inl,z5,⟨z6.os,z6.tape,z6.output,z6.dr,z6.size,fun i hi _=>z6.block i hi (fun h=>h)⟩⟩
theorem J3 {fn:Func} {r:AV} {lim:Nat} {x y:Code} {s:St} (h:dW P lim x (iE (FD P fn r lim y) (fun _ _=>False)) s):FD P fn r lim (.seq x y) s:=by
 intro c ep hd hG a w hs;refine wp_seq (wp_mono (h c ep a w hs) ?_);rintro e a' w' ⟨s',cJ,hq⟩;cases e with
 |normal=>exact hq c ep hd hG a' w' cJ
 |_=>exact hq.elim
def okB (ρ σ:cZ) (m Mg uy:Mem) (b:Nat):Prop:=
 1000≤b∧lk b ρ=some (some b)∧lk b σ=some (some b)∧(∃k,lk b m=some (some k))∧(∃k,lk b Mg=some (some k))∧∃k,lk b uy=some (some k)
def J4 (p:Nat→Prop):List Nat→Prop
 |[]=>True
 |b::l=>p b∧J4 p l
theorem WH {p:Nat→Prop}:∀{l:List Nat},J4 p l→∀b∈l,p b
 |[],_,b,h=>by cases h
 |a::l,hl,b,h=>by
  rcases List.mem_cons.1 h with h|h
  ·exact h▸hl.1
  ·exact WH hl.2 b h
def wm (b:Nat):AV:=.ref b 0 0
def J5 (t:List (Nat×AV)) (p:Nat→Prop):List (Nat×Nat)→Prop
 |[]=>True
 |(q,b)::l=>lk q t=some (.ref b 0 0)∧p b∧J5 t p l
theorem WI {t:List (Nat×AV)} {p:Nat→Prop}:∀{l:List (Nat×Nat)},J5 t p l→∀q av,lk q (l.map fun x=>(x.1,wm x.2))=some av→∃b,av=.ref b 0 0∧lk q t=some (.ref b 0 0)∧p b
 |[],_,q,av,h=>by simp [lk] at h
 |(q0,b0)::l,hl,q,av,h=>by
  rw [List.map_cons,eo] at h;split at h
  ·subst_vars;cases h;exact⟨b0,rfl,hl.1,hl.2.1⟩
  ·exact WI hl.2.2 q av h
def WJ (P:Program) (fn:Func) (g:Nat) (bs:List Nat) (r:AV) (s:St):Prop:=
 ∃(Mg:Mem) (rg:AV) (uy:Mem) (ρ σ:cZ) (W:Mem) (rs:List (Nat×Nat)),J2 P g (bs.map wm) Mg rg uy∧iV ρ=true∧(ρ.all fun p=>(lk p.1 Mg).isSome)=true∧eT ρ s.m Mg∧iV σ=true∧(σ.all fun p=>(lk p.1 W).isSome)=true∧eT σ uy W∧
  J4 (okB ρ σ s.m Mg uy) bs∧J5 s.t (okB ρ σ s.m Mg uy) rs∧n9 P fn [] r [] ⟨s.n,rs.map fun x=>(x.1,wm x.2),W⟩
theorem akU {fn:Func} {r:AV} {lim id q g n:Nat} {t:List (Nat×AV)} {m:Mem} {o0 o1:Oper} {sA:Array Operand} {post:Code} (ρ:cZ) (t1:List (Nat×AV)) (M1:Mem) (bs:List Nat) (yi:bI P g) (h0:o0.op=.makeFunc (.func g) #[] sA) (h0d:o0.dst=some q) (h0g:o0.guard=none) (hq:Nat.blt q n=true)
  (h1:o1.op=.defer ⟨.value (.tmp q),#[],#[]⟩) (h1d:o1.dst=none) (h1g:o1.guard=none) (yT:gP [] ρ (sA.toList.map (⟨n,t,m⟩:St).ev) (bs.map wm)) (hi:iV ρ=true) (hk:(ρ.all fun p=>(lk p.1 M1).isSome)=true) (ht:pd ρ ⟨n,t,m⟩ t1) (hnq:(t1.all fun p=>!Nat.beq p.1 q)=true) (hM:eT ρ m M1)
  (h:∀lim,dW P lim post (pT (WJ P fn g bs r)) ⟨n,t1,M1⟩):FD P fn r lim (.seq (.region id #[o0,o1] false) post) ⟨n,t,m⟩:=by
 intro c ep hd hG a w ⟨φ,R,hs⟩;obtain⟨WK,e1,e2,e3⟩:=yi;have hqn:q<n:=by simpa [Nat.blt_eq] using hq
 obtain⟨cv,J6⟩:∃cv,cv=sA.map a.eval:=⟨_,rfl⟩
 refine wp_seq (wp_region ?_);have xZ:∀y,Region.wanted o0 y=true:=fun y=>by simp [Region.wanted,h0g]
 have A6:∀y,Region.wanted o1 y=true:=fun y=>by simp [Region.wanted,h1g]
 have ed:(#[o0,o1]:Array Oper).size=2:=rfl;have vl:List.range 2=[0,1]:=rfl;rw [ed,vl];simp only [wpOps,List.getElem?_toArray,List.getElem?_cons_zero,List.getElem?_cons_succ,xZ,A6,if_true];refine .inl ?_
 have x0:(execOp a.eval o0).run P w=.ok (.value (.func (.func g) #[] cv)) w:=by
  simp [execOp,h0,Instr.makeFunc,J6]
 unfold Oper.wp;rw [x0,Oper.upon_value,h0d];refine .inl ?_;have WL:a.tmps.size=n:=hs.n
 have x1:(execOp (a.put (some q) (.func (.func g) #[] cv)).eval o1).run P w=.ok (.defer {target:=.fn (.func g) cv,args:=#[]}) w:=by
  have:(a.put (some q) (.func (.func g) #[] cv)).eval (.tmp q)=.func (.func g) #[] cv:=by
   simp [Act.eval,Act.put,WL,hqn]
  simp [execOp,h1,resolve,this,Deferred.ofValue]
 rw [x1,Oper.upon_defer,h1d];obtain⟨m1,m2,m3⟩:=n5 hs.m hi hk hM;obtain⟨d,WM⟩:∃d:Deferred,d={target:=.fn (.func g) cv,args:=#[]}:=⟨_,rfl⟩
 obtain⟨a1,FE⟩:∃a1:Act,a1={tmps:=a.tmps.setIfInBounds q (.func (.func g) #[] cv),defers:=[d]}:=⟨_,rfl⟩
 have Ez:(({(a.put (some q) (.func (.func g) #[] cv)) with defers:={target:=.fn (.func g) cv,args:=#[]}::(a.put (some q) (.func (.func g) #[] cv)).defers}:Act).put none undef)=a1:=by
  have:(a.put (some q) (.func (.func g) #[] cv)).defers=[]:=by rw [put_defers,hs.d,hd]
  rw [this,FE,WM];rfl
 rw [Ez];show post.wp P (bodyPostD P fn (BR c r)) a1 w
 have J7:∀b k x,lk b M1=some (some k)→φ.via ρ b=some (some x)→c.w0.heap.size≤x.cY:=fun b k x hb hx=>by
  obtain⟨b0,k0,_,g2,g3⟩:=m3 b k x hb hx;exact(hs.fresh b0 k0 x g2 g3).resolve_right (hG _)
 have dL:cW ⟨w,dj (φ.via ρ) M1,R,φ.via ρ,[d]⟩ (φ.via ρ) R ⟨n,t1,M1⟩ a1 w:=by
  refine⟨by simp [FE,WL],fun q' av mx=>?_,m1,m2,fun b k x hb hx=>.inr ⟨b,k,x,hb,hx,rfl⟩,fun _ h=>h,fun _ h=>.inl h,hs.Rb,Ext.refl _ _,by rw [FE],fun b _=>.inr rfl⟩
  have eS:q'≠q:=by
   have:=List.all_eq_true.1 hnq _ (gI mx);intro e;subst e;simp at this
  have:=mz hs.m (m:=[]) (fun _ h=>h) (fun b k h hb=>by simp [lk] at hb) (hs.get q') (Ep ht q' av (gI mx))
  have e:a1.tmps.getD q' undef=a.tmps.getD q' undef:=by
   rw [FE];simp [Array.getD_eq_getD_getElem?,Array.getElem?_setIfInBounds,Ne.symm eS]
  rw [e];exact this
 have ak1:∀(i:Nat) (c:AV) (v:Value),(bs.map wm)[i]?=some c→cv[i]?=some v→Rel w R (φ.via ρ) c v:=by
  intro i c' v hc hv;rw [J6,Array.getElem?_map] at hv;cases hx:sA[i]?with
  |none=>rw [hx] at hv;cases hv
  |some x=>
   rw [hx] at hv;cases hv;have:=(l0 yT).2 i ((⟨n,t,m⟩:St).ev x) c' (by rw [List.getElem?_map,Array.getElem?_toList,hx];rfl) hc;exact mz hs.m (m:=[]) (fun _ h=>h) (fun b k h hb=>by simp [lk] at hb) (hs.ev x) this
 have ak2:(bs.map wm).length=cv.size:=by
  have:=(l0 yT).1;rw [J6];simp at this⊢;exact this.symm
 refine wp_mono (h w.heap.size ⟨w,dj (φ.via ρ) M1,R,φ.via ρ,[d]⟩ rfl a1 w ⟨_,_,dL⟩) ?_;rintro e a' w' ⟨s',⟨jH,R2,kP⟩,hq⟩
 have fin:WJ P fn g bs r s'→Leaves P fn a'.tmps (BR c r) a'.defers .returning w':=by
  rintro⟨Mg,rg,uy,BS,σ,W,rs,HD,j1,j2,j3,j4,j5,j6,j7,j8,gZ,ρ3,f1,f2,f3,f4,f5⟩;obtain⟨n1,n2,n3⟩:=n5 kP.m j1 j2 j3;rw [kP.d];show Leaves P fn a'.tmps (BR c r) [d] .returning w'
  rw [WM]
  have same:∀b,okB BS σ s'.m Mg uy b→jH.via BS b=φ.via ρ b∧jH b=φ.via ρ b:=by
   rintro b ⟨k1,k2,_,⟨kk,k3⟩,_,_⟩;obtain⟨oh,o1,_⟩:=kP.m.rel b kk k3
   have e2:jH b=φ.via ρ b:=by
    rcases kP.gi b k1 with q1|q1
    ·rw [q1] at o1;cases o1
    ·exact q1
   refine⟨?_,e2⟩;rw [←e2];simp [Ph.via,k2]
  have WN:∀(J8 J9:Ph) (wa wb:World) (Ra Rb:Nat→Prop) (b:Nat) (v:Value),J9 b=J8 b→Rel wa Ra J8 (.ref b 0 0) v→Rel wb Rb J9 (.ref b 0 0) v:=by
   intro J8 J9 wa wb Ra Rb b v hb hr;cases hr with
   |ref hh=>exact .ref (hb.trans hh)
  have WO:∀n,dj (jH.via BS) Mg n→c.w0.heap.size≤n:=by
   rintro n ⟨b,k,x,hb,hx,rfl⟩;obtain⟨b0,k0,_,g2,g3⟩:=n3 b k x hb hx;rcases kP.fresh b0 k0 x g2 g3 with g|⟨b1,k1,x1,g4,g5,g6⟩
   ·exact Nat.le_trans hs.ext.size g
   ·rw [←g6];exact J7 b1 k1 x1 g4 g5
  refine leaves_cons (by simp) (f:=g) (args:=cv) ?_ ((HD .returning w' cv (jH.via BS) R2 ak2 (fun i c' v hc hv=>?_) n1 n2 kP.Rb).mono ?_)
  ·have Ir:WK.name≠ "runtime.NumGoroutine":=by simpa using e2
   have Is:WK.body≠none:=by
    intro hb;rw [hb] at e3;cases e3
   simp [invoke,callFunc,e1,Ir,Is]
  ·have:=ak1 i c' v hc hv;rw [List.getElem?_map] at hc;cases hb:bs[i]?with
   |none=>rw [hb] at hc;cases hc
   |some b=>
    rw [hb] at hc;cases hc;exact WN _ _ _ _ _ _ b v (same b (WH j7 b (List.mem_of_getElem? hb))).1 this
  ·rintro e u' w2 ⟨rfl,v,mL,R3,rfl,z1,z2,z3,z4,z5,z6,z7,z8⟩;show Leaves P fn a'.tmps (BR c r) [] .returning w2
   obtain⟨p1,p2,p3⟩:=n5 z2 j4 j5 j6
   have gT:cW ⟨w2,dj (mL.via σ) W,R3,mL.via σ,a'.defers⟩ (mL.via σ) R3 ⟨s'.n,rs.map fun x=>(x.1,wm x.2),W⟩ a' w2:=by
    refine⟨kP.n,fun q' av mx=>?_,p1,p2,fun b k x hb hx=>.inr ⟨b,k,x,hb,hx,rfl⟩,fun _ h=>h,fun _ h=>.inl h,z7,Ext.refl _ _,rfl,fun b _=>.inr rfl⟩;obtain⟨b,rfl,g1,g2⟩:=WI j8 q' av mx;have:=kP.t q' _ g1;refine WN jH _ _ _ _ _ b _ ?_ this;have g3:=g2;obtain⟨_,y1,y2,_,⟨k,y3⟩,⟨k',y4⟩⟩:=g3;have e3:mL b=(jH.via BS) b:=z4 b k k' y3 y4;have e4:=same b g2;simp only [Ph.via,y2];rw [e3,e4.1,e4.2]
   obtain⟨v,g1,g2⟩:=yb gT f1;obtain⟨i1,i2⟩:=vC f2;obtain⟨r1,r2,r3⟩:=n5 gT.m i1 i2 f5;refine⟨v,g1,v,(mL.via σ).via ρ3,R3,rfl,mz gT.m (m:=[]) (fun _ h=>h) (fun b k h hb=>by simp [lk] at hb) g2 f4,r1,fun n hn=>z5 n (kP.R0 n (hs.R0 n hn)),fun n hn=>?_,z7,?_⟩
   ·rcases z6 n hn with g|g|g
    ·rcases kP.Rn n g with g|g|⟨b1,k1,x1,g4,g5,g6⟩
     ·rcases hs.Rn n g with g|g|g
      ·exact .inl g
      ·exact .inr g
      ·exact(hG n g).elim
     ·exact .inr (Nat.le_trans hs.ext.size g)
     ·exact .inr (g6▸J7 b1 k1 x1 g4 g5)
    ·exact .inr (Nat.le_trans hs.ext.size (Nat.le_trans kP.ext.size g))
    ·exact .inr (WO n g)
   ·have t1:Ext c.w0 w' (fun _=>False):=by
     have a1:Ext c.w0 w (fun _=>False):=⟨hs.ext.os,hs.ext.tape,hs.ext.output,hs.ext.dr,hs.ext.size,fun i hi _=>hs.ext.block i hi (hG i)⟩;refine a1.trans kP.ext ?_;rintro i hi ⟨b1,k1,x1,g4,g5,g6⟩;have:=J7 b1 k1 x1 g4 g5;omega
    refine t1.trans z8 ?_;intro i hi hb;have:=WO i hb;omega
 cases e with
 |normal=>exact fin hq
 |ret=>exact fin hq
 |_=>exact hq.elim
end
end Go.Ab
namespace Go.Ab
open Go.RowKit Go.Proofs
theorem ak4 {W w':World} {G:Nat→Prop} (h:Ext W w' G) (hG:∀n,¬G n):∃q WQ,w'=Go.Sort.grow (W.drewN q) WQ:=by
 refine⟨w'.drawn -W.drawn,w'.heap.extract W.heap.size w'.heap.size,?_⟩
 have hh:w'.heap=W.heap++w'.heap.extract W.heap.size w'.heap.size:=by
  apply Array.ext_getElem?;intro i;rw [Array.getElem?_append];by_cases hi:i<W.heap.size
  ·rw [if_pos hi];exact h.block i hi (hG i)
  ·rw [if_neg hi,Array.getElem?_extract];split
   ·congr 1;omega
   ·rename_i h2;have:=h.size;exact Array.getElem?_eq_none (by omega)
 have hd:=h.dr;have ho:=h.os;have ht:=h.tape;have hu:=h.output;generalize w'.heap.extract W.heap.size w'.heap.size=WQ at hh;cases w' with
 |mk heap tape drawn os output=>
  cases W with
  |mk ast asu asv os0 asx=>
   dsimp only at hd ho ht hu hh;subst ho ht hu hh;simp only [Go.Sort.grow,World.drewN];congr 1;omega
theorem J_ {h:Array Obj} {b:Nat} {f:Obj→Obj} {os:Array Obj} {n:Nat} (hn:n<h.size) (eS:n≠b):(h.modify b f++os)[n]?=h[n]?:=by
 rw [Array.getElem?_append_left (by simpa using hn),Array.getElem?_modify,if_neg (Ne.symm eS)]
section
variable{P:Program} {ρ:Go.Shelf.Ren} {α:Type} [Inhabited α]
theorem ak5 (L:SlLaysF0.n6 P ρ) (k:Nat) (rZ:0<k) (aE:∀w,(isAgg (ρ.t 24)).run P w=.ok true w) (zE:∀w,(Go.sizeOf (ρ.t 24)).run P w=.ok k w) (enc:α→AV) (gu:α→List Value) (hk:∀x,(gu x).length=k) (hf:∀x,∀v∈gu x,flat v=true) (h1:∀x,∀v∈gu x,v.oneCell'=true) (J':∀x,enc x=.agg ((gu x).map .sc))
  (cf:α→α→Int) (hO:Go.Sort.SWO (ltOf cf)) (hT:∀x y,(ltOf cf) x y=false→(ltOf cf) y x=false→x=y) (g:Nat) (eg:∀args w,(callFunc g args).run P w=.ok (.enter g args) w) (hcf:∀x y,Holds P g [enc x,enc y] [] (.sc (.int .i64 (cf x y))) []) (T:Nat) (xs:List α) (ed:xs.length<4611686018427387904) (f:Nat) (hfe:ρ.f 6=f):
  Holds P f [.arr 1300 0 xs.length,.db g [] []] [(1300,some ⟨T,k,xs.map enc⟩)] (.cz []) [(1300,some ⟨T,k,(xs.mergeSort fun x y=>!(ltOf cf) y x).map enc⟩)]:=by
 subst hfe;intro w vs φ R n_ fW gG l8 fe
 have FF:∃v0 v1,vs=#[v0,v1]:=by
  have:vs.size=2:=n_.symm;refine⟨vs[0],vs[1],?_⟩;apply Array.ext
  ·simpa using this
  ·intro i h1 h2;have:i<2:=by simpa using h2
   match i,this with
   |0,_=>rfl
   |1,_=>rfl
 obtain⟨v0,v1,rfl⟩:=FF;have r0:=fW 0 _ v0 rfl rfl;have r1:=fW 1 _ v1 rfl rfl
 have cj:v1=.func (.func g) #[] #[]:=by
  cases r1 with
  |@db _ _ _ _ fv cv e1 e2 _ _=>
   have a1:fv=#[]:=Array.eq_empty_of_size_eq_zero e1.symm;have a2:cv=#[]:=Array.eq_empty_of_size_eq_zero e2.symm;rw [a1,a2]
 subst cj;obtain⟨oh,ho,nX⟩:=gG.rel 1300 _ rfl
 have one:∀b (x:Option fc),lk b [(1300,some (⟨T,k,xs.map enc⟩:fc))]=some x→b=1300:=by
  intro b x hb;rw [eo] at hb;split at hb
  ·assumption
  ·cases hb
 have BT:∀b (x:Option fc),lk b [(1300,some (⟨T,k,(xs.mergeSort fun x y=>!(ltOf cf) y x).map enc⟩:fc))]=some x→b=1300∧x=some ⟨T,k,(xs.mergeSort fun x y=>!(ltOf cf) y x).map enc⟩:=by
  intro b x hb;rw [eo] at hb;split at hb
  ·exact⟨by assumption,(Option.some.inj hb).symm⟩
  ·cases hb
 have fin:∀w':World,(∀n,R n→w'.heap[n]?=w.heap[n]?)→w.heap.size≤w'.heap.size→iT w' R φ oh ⟨T,k,(xs.mergeSort fun x y=>!(ltOf cf) y x).map enc⟩→Ext w w' (dj φ [(1300,some ⟨T,k,xs.map enc⟩)])→
   ∃v φ' R',Ending.returned (.tuple #[])=.returned v∧Rel w' R' φ' (.cz []) v∧gX w' R' φ' [(1300,some ⟨T,k,(xs.mergeSort fun x y=>!(ltOf cf) y x).map enc⟩)]∧(∀b k1 h,lk b [(1300,some (⟨T,k,(xs.mergeSort fun x y=>!(ltOf cf) y x).map enc⟩:fc))]=some (some k1)→φ' b=some (some h)→w.heap.size≤h.cY∨dj φ [(1300,some ⟨T,k,xs.map enc⟩)] h.cY)∧
   (∀b k1 k',lk b [(1300,some (⟨T,k,xs.map enc⟩:fc))]=some (some k1)→lk b [(1300,some (⟨T,k,(xs.mergeSort fun x y=>!(ltOf cf) y x).map enc⟩:fc))]=some (some k')→φ' b=φ b)∧(∀n,R n→R' n)∧(∀n,R' n→R n∨w.heap.size≤n∨dj φ [(1300,some ⟨T,k,xs.map enc⟩)] n)∧(∀n,R' n→n<w'.heap.size)∧Ext w w' (dj φ [(1300,some ⟨T,k,xs.map enc⟩)]):=by
  intro w' hw hs hb hx;refine⟨.tuple #[],φ,R,rfl,.cz rfl (by simp),⟨?_,?_,?_,gG.gl.mono hw (fun _ h=>h)⟩,?_,fun _ _ _ _ _=>rfl,fun _ h=>h,fun _ h=>.inl h,fun n hn=>Nat.lt_of_lt_of_le (fe n hn) hs,hx⟩
  ·intro b k1 h1;obtain⟨rfl,e⟩:=BT _ _ h1;cases e;exact⟨oh,ho,hb⟩
  ·intro b b' k1 k2 h h' h1 h2 _ _ _;rw [(BT _ _ h1).1,(BT _ _ h2).1]
  ·intro b k1 h h1 e1;obtain⟨rfl,_⟩:=BT _ _ h1;exact gG.ga 1300 _ h rfl e1
  ·intro b k1 h h1 e1;obtain⟨rfl,_⟩:=BT _ _ h1;exact .inr ⟨1300,_,h,rfl,e1,rfl⟩
 generalize Ed:xs.length=n0 at r0;cases r0 with
 |kA hb=>
  have hx:xs=[]:=List.eq_nil_of_length_eq_zero Ed;subst hx;rw [hb] at ho;cases ho;refine(AnyF.slices_SortFunc_none {L with} none 0 (.func (.func g) #[] #[]) w).mono ?_;rintro e w' ⟨rfl,rfl⟩;exact fin w' (fun _ _=>rfl) (Nat.le_refl _) (by show List.map enc _=[];simp) (Ext.refl _ _)
 |@arr _ _ _ _ cap h hb lE tR=>
  rw [hb] at ho;cases ho;obtain⟨e1,e2,e3,e4,C,e5,e6,e7⟩:=nX;dsimp only at e1 e3;subst Ed;have lC:¬R h.cY:=gG.ga 1300 _ h rfl hb;have hblk:h.cY<w.heap.size:=(Array.getElem?_eq_some_iff.1 e5).1;have kC:xs.length≤h.cap:=by simpa using e3
  have cellAt:∀(i j:Nat) (x:α),xs[i]?=some x→j<k→C[i*k+j]?=some (gu x)[j]!:=by
   intro i j x hx hj;obtain⟨q1,q2⟩:=e7 i (enc x) (by simp [hx]);have fk:j<(gu x).length:=by rw [hk];exact hj
   obtain⟨u,hu,hr⟩:=q2 j (.sc (gu x)[j]) (by rw [J'];simp [AV.cells,fk]);have:=hr.gN;rw [←e1] at hu;rw [hu,this];simp [fk]
  have hH:Go.Sort.HoldsK gu k w h.cY 0 xs.toArray:=by
   intro t ht;have qV:t<xs.length*k:=by simpa using ht
   have hi:t/k<xs.length:=by rw [Nat.div_lt_iff_lt_mul rZ];exact qV
   have hc:=cellAt (t/k) (t%k) xs[t/k] (List.getElem?_eq_getElem hi) (Nat.mod_lt _ rZ);rw [Nat.mul_comm,Nat.div_add_mod] at hc;rw [Go.Sort.get_flatK _ _ _ _ (by simpa using qV),Nat.zero_add];refine⟨?_,by simp [World.frozen?,e5]⟩;simp only [World.cell?,e5,id];rw [hc];simp [hi]
  have ak8:CmpLays P g #[] gu k cf h.cY 0 xs.toArray.size w:=by
   intro m os dk _ x y;have hW:∀n,R n→(sortWorldK gu k w h.cY 0 m dk os).heap[n]?=w.heap[n]?:=fun n hn=>J_ (fe n hn) (fun e=>lC (e▸hn))
   refine(hcf x y (sortWorldK gu k w h.cY 0 m dk os) #[.agg (gu x).toArray,.agg (gu y).toArray] Ph.no R rfl ?_ ⟨fun b k hb=>by simp [lk] at hb,fun b b' k k' h h' hb=>by simp [lk] at hb,fun b k h hb=>by simp [lk] at hb,gG.gl.mono hW (fun _ h=>h)⟩ (fun b x hx=>by cases hx) (fun n hn=>Nat.lt_of_lt_of_le (fe n hn) ?_)).mono ?_
   ·have rel:∀z:α,Rel (sortWorldK gu k w h.cY 0 m dk os) R Ph.no (enc z) (.agg (gu z).toArray):=fun z=>by
     rw [J'];refine .agg (by simp) fun i c v hc hv=>?_
     simp only [List.getElem?_map,List.getElem?_toArray] at hc hv;rw [hv] at hc;cases hc;exact .sc (hf z v (List.mem_of_getElem? hv))
    intro i c v hc hv
    match i with
    |0=>cases hc;cases hv;exact rel x
    |1=>cases hc;cases hv;exact rel y
    |i+2=>simp at hc
   ·show w.heap.size≤(w.heap.modify h.cY _++os).size
    simp
   ·rintro e w' ⟨v,φ',R',rfl,hr,_,_,_,_,_,_,hx⟩;refine⟨by rw [hr.gN],ak4 hx ?_⟩;rintro n ⟨b,k,h,hb,_⟩;simp [lk] at hb
  rw [show(0:Nat)*h.cy=0 by omega]
  have FG:=AnyQ.slices_SortFunc_total L k aE zE gu hk h1 cf hO g #[] h.cY 0 cap xs.toArray w eg ak8 hH hblk (by simpa using ed) hT;rw [List.size_toArray] at FG;refine FG.mono ?_;rintro e w' ⟨rfl,n,os,rfl⟩;generalize hD:(xs.toArray.toList.mergeSort fun x y=>!(ltOf cf) y x)=D;have WR:(xs.mergeSort fun x y=>!(ltOf cf) y x)=D:=by rw [←hD]
  have hDl:D.length=xs.length:=by rw [←WR,List.length_mergeSort]
  rw [WR] at fin;have BU:(sortWorldK gu k w h.cY 0 n D.toArray os).heap=w.heap.modify h.cY (Go.Sort.onCells (Go.Sort.putCells id 0 (Go.Sort.flatK gu k D.toArray)))++os:=rfl;refine fin _ (fun q hq=>by rw [BU];exact J_ (fe q hq) (fun e=>lC (e▸hq))) (by rw [BU];simp) ⟨e1,e2,by simpa [hDl] using kC,e4,Go.Sort.putCells id 0 (Go.Sort.flatK gu k D.toArray) C,?_,by simp [Go.Sort.putCells,e6],?_⟩ ⟨rfl,rfl,rfl,by show w.drawn≤w.drawn+n;omega,by rw [BU];simp,fun i hi eS=>by rw [BU];exact J_ hi (fun e=>eS ⟨1300,_,h,rfl,hb,e.symm⟩)⟩
  ·rw [BU,Array.getElem?_append_left (by simpa using hblk),Array.getElem?_modify,if_pos rfl,e5];rfl
  ·intro i x hx;dsimp only at hx;rw [List.getElem?_map] at hx;cases hq:D[i]?with
   |none=>rw [hq] at hx;cases hx
   |some y=>
    rw [hq] at hx;cases hx;rw [J',←e1];refine⟨by simp [AV.cells,hk],fun j c hc=>?_⟩;have hi:i<D.length:=(List.getElem?_eq_some_iff.1 hq).1
    have hj:j<k:=by
     have:=(List.getElem?_eq_some_iff.1 hc).1;simpa [AV.cells,hk] using this
    have D7:j<(gu y).length:=by rw [hk];exact hj
    have cn:i*k+j<D.length*k:=tL hi hj
    have ak_:i*k+j<C.size:=by
     have:=Nat.mul_le_mul_right k (show D.length≤h.cap by omega)
     rw [e6,←e1];omega
    refine⟨(gu y)[j],?_,?_⟩
    ·have H3:D[i]=y:=(List.getElem?_eq_some_iff.1 hq).2;simp only [Go.Sort.putCells,Array.getElem?_mapIdx];rw [Array.getElem?_eq_getElem ak_];simp only [Option.map_some,Nat.zero_le,true_and,Nat.zero_add,Go.Sort.size_flatK,List.size_toArray,if_pos cn,Nat.sub_zero,id];rw [Go.Sort.get_flatK _ _ _ _ (by simpa using cn)];have d1:(i*k+j)/k=i:=(Go.Sort.blk_iff k i _ rZ).1 ⟨by omega,by omega⟩;have d2:(i*k+j)%k=j:=by rw [Nat.mul_comm,Nat.mul_add_mod,Nat.mod_eq_of_lt hj]
     rw [d1,d2];simp [hi,H3,D7]
    ·have:c=.sc (gu y)[j]:=by
      simp [AV.cells,D7] at hc;exact hc.symm
     rw [this];exact .sc (hf y _ (List.getElem_mem _))
end
end Go.Ab
namespace Go.Proofs.YtccnpbnokndeeaaGreatDoor
open Go Go.Ab
section
variable{lim id n:Nat} {ops:Array Oper} {draw:Bool} {t t':List (Nat×AV)} {m m':Mem} {l l':List Oper} {acc mu:List (Option ec)} {Q:Exit→St→Prop} {R:St→Prop} {nx:St→Prop} {y:Code} {s:St}
theorem Zr (k:Nat) (h:o7 tt ops k l n t m acc=some (l',t',m',mu)) (hg:Go Tryz.prog ops draw R l' ⟨n,t',m'⟩ mu):Go Tryz.prog ops draw R l ⟨n,t,m⟩ acc:=Hq aa k h hg
theorem Zn (h:nx s):Go Tryz.prog ops false (iE nx Q .normal) [] s acc:=aI nd (aq h)
theorem ah (k:Nat) (h:o7 tt ops k l n t m acc=some ([],t',m',mu)) (hx:nx ⟨n,t',m'⟩):Go Tryz.prog ops false (iE nx Q .normal) l ⟨n,t,m⟩ acc:=Zr k h (Zn hx)
theorem aY (k:Nat) (h:o7 tt ops k ops.toList n t m []=some (l',t',m',mu)) (hg:Go Tryz.prog ops draw (Q .normal) l' ⟨n,t',m'⟩ mu):dW Tryz.prog lim (.region id ops draw) Q ⟨n,t,m⟩:=fJ cL (Zr k h hg)
theorem iS (k:Nat) (h:o7 tt ops k ops.toList n t m []=some ([],t',m',mu)) (hx:nx ⟨n,t',m'⟩):dW Tryz.prog lim (.region id ops false) (iE nx Q) ⟨n,t,m⟩:=aY k h (Zn hx)
theorem au (k:Nat) (h:o7 tt ops k ops.toList n t m []=some (l',t',m',mu)) (hg:Go Tryz.prog ops draw (iE (dW Tryz.prog lim y Q) Q .normal) l' ⟨n,t',m'⟩ mu):dW Tryz.prog lim (.seq (.region id ops draw) y) Q ⟨n,t,m⟩:=aD (aY k h hg)
theorem ab (k:Nat) (h:o7 tt ops k ops.toList n t m []=some ([],t',m',mu)) (hx:dW Tryz.prog lim y Q ⟨n,t',m'⟩):dW Tryz.prog lim (.seq (.region id ops false) y) Q ⟨n,t,m⟩:=aD (iS k h hx)
theorem Zk (h:nx s):dW Tryz.prog lim .skip (iE nx Q) s:=cV (aq h)
theorem Ze (h:Q .ret s):dW Tryz.prog lim .ret (iE nx Q) s:=aR (aJ h)
theorem Zx {p:Prop} {b c:Bool} (h:b=c) (e:b=!c:=by rfl):p:=by
  subst h;cases b<;>cases e
end
end Go.Proofs.YtccnpbnokndeeaaGreatDoor
end
