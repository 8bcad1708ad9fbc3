/- For every input the law 'TopTurns' returns true, and each argument reads afterwards as it did before, where the variables 'cutting.none', 'poly.turns' and 'ring.directions' hold what the program's text lays in them. No other condition. The card of that row, tied to the program's text. -/
import Derived.Test.YtccnpbnokndeeaaGreatDoorT13
import Derived.Test.YtccnpbnokndeeaaGreatDoorCards
import Derived.Test.YtccnpbnokndeeaaGreatDoorTie
import Derived.LaidMore
import Derived.Lay
import Derived.SevenTiedAt
import Derived.Stop.Joined
noncomputable section
open Option renaming bind→β
open Sum renaming inr→ι,inl→κ
namespace Go.Proofs.YtccnpbnokndeeaaGreatDoor
open Go.ChangeShapes Go.WideShapes Go.ChangeAt Go.RowKit Go.Ab
theorem apr:ownKnob Tryz.prog.godebug=none:=by kernel_rfl
theorem aps:laidOutB Tryz.prog=true:=by kernel_rfl
def xT:List (String×DataW Unit):=[("sawmill/cutting.none",Rows.laid_sawmill_cutting_none),("sawmill/poly.turns",Rows.laid_sawmill_poly_turns),("sawmill/ring.directions",Rows.laid_sawmill_ring_directions)]
theorem apt (xs:List AV) (h:BE [vS,.int .i64] xs):Holds Tryz.prog 4 xs [] (.sc (.bool true)) []:=by
 obtain⟨x1,x2,rfl,h1,h2⟩:=of2 h;obtain⟨a1,rfl,k1⟩:=UJ (fun _=>ahV) h1;obtain⟨a2,rfl,k2⟩:=UJ (fun _=>JZ) h2;exact amd a1 a2 true (apj a1 a2)
theorem Yl {W:World} (h:laidMetH Tryz.prog xT W):∃c0 c1 c2:Array Value,(∀k,W.cell? ⟨0,k,none⟩=c0[k]?)∧(∀k,W.cell? ⟨1,k,none⟩=c1[k]?)∧(∀k,W.cell? ⟨2,k,none⟩=c2[k]?)∧
  c0.toList=[.int .i64 (-1),.int .i64 (-1)]∧c1.toList=[.int .i64 1,.int .i64 0,.int .i64 0,.int .i64 1,.int .i64 (-1),.int .i64 0,.int .i64 0,.int .i64 (-1)]∧c2.toList=[.int .i64 (-1),.int .i64 1]:=by
 rw [MakeChecks.laidMetH_plain _ _ _ (by kernel_rfl)] at h;obtain⟨ps,⟨g2,t2,cs2,f2,p2,q2,Ym,ht2,e_,CL,⟨g0,t0,cs0,f0,p0,q0,Yn,Ks,hv0,rn,⟨g1,t1,cs1,f1,p1,q1,Yo,Fy,bx,pW,_,_⟩,_⟩,_⟩,_,_⟩:=h;obtain rfl:=Option.some.inj ((show Tryz.prog.globalNamed "sawmill/cutting.none"=some 0 by kernel_rfl).symm.trans Ym)
 obtain rfl:=Option.some.inj ((show Tryz.prog.globalNamed "sawmill/poly.turns"=some 1 by kernel_rfl).symm.trans Yn)
 obtain rfl:=Option.some.inj ((show Tryz.prog.globalNamed "sawmill/ring.directions"=some 2 by kernel_rfl).symm.trans Yo)
 obtain rfl:=Option.some.inj ((show(Tryz.prog.globals[0]?).map (·.type)=some 224 by kernel_rfl).symm.trans ht2)
 obtain rfl:=Option.some.inj ((show(Tryz.prog.globals[1]?).map (·.type)=some 283 by kernel_rfl).symm.trans Ks)
 obtain rfl:=Option.some.inj ((show(Tryz.prog.globals[2]?).map (·.type)=some 147 by kernel_rfl).symm.trans Fy)
 refine⟨cs2,cs0,cs1,World.var?_cell Ym e_,World.var?_cell Yn hv0,World.var?_cell Yo bx,?_,?_,?_⟩
 ·exact Nj (.inr ⟨_,_,Tryz.underlying224,Tryz.underlying3,Tryz.underlying3,rfl,rfl,by kernel_rfl,by kernel_rfl⟩) (by kernel_rfl) CL rfl
 ·exact apk (l:=[(1,0),(0,1),(-1,0),(0,-1)]) Tryz.underlying283 (by kernel_rfl) (by kernel_rfl) (.inr ⟨_,_,Tryz.underlying94,Tryz.underlying3,Tryz.underlying3,rfl,rfl,by kernel_rfl,by kernel_rfl⟩) rn rfl
 ·exact Nj (.inl ⟨_,Tryz.underlying147,Tryz.underlying3,by kernel_rfl⟩) (by kernel_rfl) pW rfl
theorem Yp {g:Nat} {cs:List AV} (h:Ab.lk g pd=some cs):(g=0∧cs=([.int .i64 (-1),.int .i64 (-1)]:List Value).map .sc)∨(g=1∧cs=([.int .i64 1,.int .i64 0,.int .i64 0,.int .i64 1,.int .i64 (-1),.int .i64 0,.int .i64 0,.int .i64 (-1)]:List Value).map .sc)∨(g=2∧cs=([.int .i64 (-1),.int .i64 1]:List Value).map .sc):=by
 unfold pd at h;simp only [Ab.lk] at h;split at h
 ·rename_i e;simp at e;exact .inl ⟨e,(Option.some.inj h).symm⟩
 ·split at h
  ·rename_i e;simp at e;exact .inr (.inl ⟨e,(Option.some.inj h).symm⟩)
  ·split at h
   ·rename_i e;simp at e;exact .inr (.inr ⟨e,(Option.some.inj h).symm⟩)
   ·cases h
theorem apz {W:World} (h:laidMetH Tryz.prog xT W) (R:Nat→Prop) (hR:∀g,(Ab.lk g pd).isSome=true→R g):tk W R:=by
 obtain⟨c0,c1,c2,h0,h1,h2,h3,h4,h5⟩:=Yl h;refine apl fun g cs hg=>⟨hR g (by rw [hg];rfl),?_⟩
 rcases Yp hg with⟨rfl,rfl⟩|⟨rfl,rfl⟩|⟨rfl,rfl⟩
 ·exact⟨_,c0,rfl,rfl,h0,h3⟩
 ·exact⟨_,c1,rfl,rfl,h1,h4⟩
 ·exact⟨_,c2,rfl,rfl,h2,h5⟩
theorem Nk {W:World} {g:Nat} {v:Value} (h:W.cell? ⟨g,0,none⟩=some v):g<W.heap.size:=by
 rcases Nat.lt_or_ge g W.heap.size with z|z
 ·exact z
 ·simp [World.cell?,Array.getElem?_eq_none z] at h
theorem apA {W:World} (h:laidMetH Tryz.prog xT W) (g:Nat) (hg:(Ab.lk g pd).isSome=true):g<W.heap.size:=by
 obtain⟨c0,c1,c2,h0,h1,h2,h3,h4,h5⟩:=Yl h;obtain⟨cs,yY⟩:=Option.isSome_iff_exists.1 hg;rcases Yp yY with⟨rfl,_⟩|⟨rfl,_⟩|⟨rfl,_⟩
 ·exact Nk (v:=.int .i64 (-1)) (by rw [h0,←Array.getElem?_toList,h3];rfl)
 ·exact Nk (v:=.int .i64 1) (by rw [h1,←Array.getElem?_toList,h4];rfl)
 ·exact Nk (v:=.int .i64 (-1)) (by rw [h2,←Array.getElem?_toList,h5];rfl)
set_option maxRecDepth 100000 in
theorem apB (os:Os) (started:os.Started) (H:Type) (enc:TypeId×Value→H):
  ReturnsInHanded {} Tryz.checked os 4 .any (fun w args=>(Rows.topTurnsSpec.pre enc Tryz.prog Tryz.f4 [] false w args∧laidMetH Tryz.prog xT w)∧sizedMet enc Tryz.prog Tryz.f4 (OpenSpec.ofChange Rows.topTurnsSpec) false w args)
   (Rows.topTurnsSpec.post enc Tryz.prog Tryz.f4 false true false false):=by
 refine returnsInHanded_of_change_and (C:=Tryz.checked) (X:=fun w _=>laidMetH Tryz.prog xT w) (fun _ _ _ hh h=>h.of_heap hh) apr started (by kernel_rfl) Tryz.func4
  (ChangeSpec.witness_shaped (enc:=enc) (C:=Tryz.checked) (os:=os) (X:=fun w _=>laidMetH Tryz.prog xT w) false (World.laidAll Tryz.prog os xT) #[.agg #[.slice none 0 0,.slice none 0 0,.slice none 0 0,.int .i64 0,.int .i64 0,.int .i64 0,.int .i64 0,.int .i64 0,.int .i64 0,.int .i64 0,.int .i64 0,.int .i64 0],.int .i64 0] 8 (World.laidAll_os _ _ _)
   (World.shaped_of_ZipB (by kernel_rfl) (by kernel_rfl)) (by kernel_rfl) (by kernel_rfl) (by kernel_rfl)
   (by rw [MakeChecks.laidMetH_plain _ _ _ (by kernel_rfl)];exact laidMet_laidAll _ (by kernel_rfl) (by kernel_rfl))) ?_
 intro W base args ds gs before BD hW aqp _ hL _;refine apm (fn:=Tryz.f4) (spec:=Rows.topTurnsSpec) (apz hL) (apA hL) [vS,.int .i64] aps (by kernel_rfl) (by kernel_rfl) rfl (by kernel_rfl:Tryz.f4.resultTypes=#[4]) Tryz.underlying4 ?_ apt BD hW;intro ds Kk
 match ds,Kk with
 |[_,_],_=>exact⟨rfl,rfl,rfl⟩
theorem apC:Rows.TopTurnsSaid:=
 OpenClaim.holds_of_wide 4 Tryz.f4 rfl rfl rfl rfl rfl rfl rfl ⟨rfl,rfl,rfl,rfl,rfl⟩ rfl rfl rfl rfl rfl (by kernel_rfl) Tryz.func4 (by kernel_rfl)
  (of_decide_eq_true (by kernel_rfl)) (by unfold Func.isWrapper;first|(rw [if_pos (by decide+kernel)];kernel_rfl)|(rw [if_neg (by decide+kernel)];exact⟨rfl,rfl⟩))
  (fun os started H enc _=>apB os started H enc)
theorem topTurns_holds:Rows.TopTurnsCardSaid:=
 Claim7.holds_tied_plain_at .later [] [.data,.data,.data] true (true, "6a4e29ba4d5b735d95e7319c2d5bc83d9057cffbc9b2b22c9cef58cf1a3b9d43") false
  apC (fun _ h=>by cases h) (by kernel_rfl) (fun _ h=>by cases h) topTurns_row_tie rfl ⟨rfl,rfl⟩ (by kernel_rfl) rfl
  (fun f fn hf yp=>by
   obtain rfl:f=4:=Option.some.inj ((show Tryz.prog.funcNamed "sawmill/sawmilltop.TopTurns"=some 4 by kernel_rfl).symm.trans hf)|>.symm
   obtain rfl:fn=Tryz.f4:=(Option.some.inj (Tryz.func4.symm.trans yp)).symm
   exact⟨by kernel_rfl,fun j t ht=>by
    rw [Tryz.params4] at ht;have hm:t∈[32,3]:=by simpa using Array.mem_of_getElem? ht
    have lh:([32,3].all fun u=>!Tryz.prog.wantsStandIn u)=true:=by kernel_rfl
    exact(show Tryz.prog.wantsStandIn t=false by simpa using List.all_eq_true.1 lh t hm)⟩)
  (by kernel_rfl)
end Go.Proofs.YtccnpbnokndeeaaGreatDoor
end
