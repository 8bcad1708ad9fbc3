/- For every input the law 'TopVolume' returns true, and each argument reads afterwards as it did before, where the variables 'poly.turns' and 'ring.directions' hold what the program's text lays in them. No other condition. The card of that row, tied to the program's text. -/
import Derived.Test.YtccnpbnokndeeaaGreatDoorM13
import Derived.Test.YtccnpbnokndeeaaGreatDoorCards
import Derived.Test.YtccnpbnokndeeaaGreatDoorTie
import Derived.LaidMore
import Derived.Lay
import Derived.SevenTiedAt
import Derived.Stop.Joined
noncomputable section
open Option renaming bind→β
open Sum renaming inr→ι,inl→κ
namespace Go.Proofs.YtccnpbnokndeeaaGreatDoor
open Go.ChangeShapes Go.WideShapes Go.ChangeAt Go.RowKit Go.Ab
theorem ar1:ownKnob Tryz.prog.godebug=none:=by kernel_rfl
theorem ar2:laidOutB Tryz.prog=true:=by kernel_rfl
def xR:List (String×DataW Unit):=[("sawmill/poly.turns",Rows.laid_sawmill_poly_turns),("sawmill/ring.directions",Rows.laid_sawmill_ring_directions)]
theorem ar3 (xs:List AV) (h:Bp [v_,v',.slice (.int .i64)] xs):Holds Tryz.prog 3 xs [] (.sc (.bool true)) []:=by
 obtain⟨x1,x2,x3,rfl,h1,h2,h3⟩:=of3 h;obtain⟨a1,rfl,k1⟩:=Jh (fun _=>ajF) h1;obtain⟨a2,rfl,k2⟩:=Jh (fun _=>ajM) h2;obtain⟨a3,rfl,k3⟩:=Jh (fun _=>ajp (fun _=>Jg)) h3;exact aon a1 a2 a3 true (arT a1 a2 a3)
theorem aat {W:World} (h:laidMetH Tryz.prog xR W):∃c1 c2:Array Value,(∀k,W.cell? ⟨1,k,none⟩=c1[k]?)∧(∀k,W.cell? ⟨2,k,none⟩=c2[k]?)∧
  c1.toList=[.int .i64 1,.int .i64 0,.int .i64 0,.int .i64 1,.int .i64 (-1),.int .i64 0,.int .i64 0,.int .i64 (-1)]∧c2.toList=[.int .i64 (-1),.int .i64 1]:=by
 rw [MakeChecks.laidMetH_plain _ _ _ (by kernel_rfl)] at h;obtain⟨ps,⟨g0,t0,cs0,f0,p0,q0,hg0,JW,hv0,rb,⟨g1,t1,cs1,f1,p1,q1,Ou,EG,cj,pP,_,_⟩,_⟩,_,_⟩:=h;obtain rfl:=Option.some.inj ((show Tryz.prog.globalNamed "sawmill/poly.turns"=some 1 by kernel_rfl).symm.trans hg0)
 obtain rfl:=Option.some.inj ((show Tryz.prog.globalNamed "sawmill/ring.directions"=some 2 by kernel_rfl).symm.trans Ou)
 obtain rfl:=Option.some.inj ((show(Tryz.prog.globals[1]?).map (·.type)=some 283 by kernel_rfl).symm.trans JW)
 obtain rfl:=Option.some.inj ((show(Tryz.prog.globals[2]?).map (·.type)=some 147 by kernel_rfl).symm.trans EG)
 refine⟨cs0,cs1,World.var?_cell hg0 hv0,World.var?_cell Ou cj,?_,?_⟩
 ·exact arV (l:=[(1,0),(0,1),(-1,0),(0,-1)]) Tryz.underlying283 (by kernel_rfl) (by kernel_rfl) (.inr ⟨_,_,Tryz.underlying94,Tryz.underlying3,Tryz.underlying3,rfl,rfl,by kernel_rfl,by kernel_rfl⟩) rb rfl
 ·exact aao (.inl ⟨_,Tryz.underlying147,Tryz.underlying3,by kernel_rfl⟩) (by kernel_rfl) pP rfl
theorem aav {g:Nat} {cs:List AV} (h:Ab.lk g o8=some cs):(g=1∧cs=([.int .i64 1,.int .i64 0,.int .i64 0,.int .i64 1,.int .i64 (-1),.int .i64 0,.int .i64 0,.int .i64 (-1)]:List Value).map .sc)∨(g=2∧cs=([.int .i64 (-1),.int .i64 1]:List Value).map .sc):=by
 unfold o8 at h;simp only [Ab.lk] at h;split at h
 ·rename_i e;simp at e;exact .inl ⟨e,(Option.some.inj h).symm⟩
 ·split at h
  ·rename_i e;simp at e;exact .inr ⟨e,(Option.some.inj h).symm⟩
  ·cases h
theorem ar7 {W:World} (h:laidMetH Tryz.prog xR W) (R:Nat→Prop) (hR:∀g,(Ab.lk g o8).isSome=true→R g):tI W R:=by
 obtain⟨c1,c2,h1,h2,h3,h4⟩:=aat h;refine arW fun g cs hg=>⟨hR g (by rw [hg];rfl),?_⟩
 rcases aav hg with⟨rfl,rfl⟩|⟨rfl,rfl⟩
 ·exact⟨_,c1,rfl,rfl,h1,h3⟩
 ·exact⟨_,c2,rfl,rfl,h2,h4⟩
theorem aaw {W:World} {g:Nat} {v:Value} (h:W.cell? ⟨g,0,none⟩=some v):g<W.heap.size:=by
 rcases Nat.lt_or_ge g W.heap.size with z|z
 ·exact z
 ·simp [World.cell?,Array.getElem?_eq_none z] at h
theorem ar8 {W:World} (h:laidMetH Tryz.prog xR W) (g:Nat) (hg:(Ab.lk g o8).isSome=true):g<W.heap.size:=by
 obtain⟨c1,c2,h1,h2,h3,h4⟩:=aat h;obtain⟨cs,yT⟩:=Option.isSome_iff_exists.1 hg;rcases aav yT with⟨rfl,_⟩|⟨rfl,_⟩
 ·exact aaw (v:=.int .i64 1) (by rw [h1,←Array.getElem?_toList,h3];rfl)
 ·exact aaw (v:=.int .i64 (-1)) (by rw [h2,←Array.getElem?_toList,h4];rfl)
set_option maxRecDepth 100000 in
theorem ar9 (os:Os) (started:os.Started) (H:Type) (enc:TypeId×Value→H):
  ReturnsInHanded {} Tryz.checked os 3 .any (fun w args=>(Rows.topVolumeSpec.pre enc Tryz.prog Tryz.f3 [] false w args∧laidMetH Tryz.prog xR w)∧sizedMet enc Tryz.prog Tryz.f3 (OpenSpec.ofChange Rows.topVolumeSpec) false w args)
   (Rows.topVolumeSpec.post enc Tryz.prog Tryz.f3 false true false false):=by
 refine returnsInHanded_of_change_and (C:=Tryz.checked) (X:=fun w _=>laidMetH Tryz.prog xR w) (fun _ _ _ hh h=>h.of_heap hh) ar1 started (by kernel_rfl) Tryz.func3
  (ChangeSpec.witness_shaped (enc:=enc) (C:=Tryz.checked) (os:=os) (X:=fun w _=>laidMetH Tryz.prog xR w) false (World.laidAll Tryz.prog os xR) #[.agg #[.slice none 0 0,.slice none 0 0,.slice none 0 0,.int .i64 0,.int .i64 0,.int .i64 0,.int .i64 0,.int .i64 0,.int .i64 0,.int .i64 0,.int .i64 0,.int .i64 0],.agg #[.int .i64 0,.int .i64 0,.int .i64 0,.int .i64 0,.slice none 0 0],.slice none 0 0] 8 (World.laidAll_os _ _ _)
   (World.shaped_of_ZipB (by kernel_rfl) (by kernel_rfl)) (by kernel_rfl) (by kernel_rfl) (by kernel_rfl)
   (by rw [MakeChecks.laidMetH_plain _ _ _ (by kernel_rfl)];exact laidMet_laidAll _ (by kernel_rfl) (by kernel_rfl))) ?_
 intro W base args ds gs before Bo hW as5 _ hL _;refine arX (fn:=Tryz.f3) (spec:=Rows.topVolumeSpec) (ar7 hL) (ar8 hL) [v_,v',.slice (.int .i64)] ar2 (by kernel_rfl) (by kernel_rfl) rfl (by kernel_rfl:Tryz.f3.resultTypes=#[4]) Tryz.underlying4 ?_ ar3 Bo hW;intro ds JK
 match ds,JK with
 |[_,_,_],_=>exact⟨rfl,rfl,rfl⟩
theorem ar_:Rows.TopVolumeSaid:=
 OpenClaim.holds_of_wide 3 Tryz.f3 rfl rfl rfl rfl rfl rfl rfl ⟨rfl,rfl,rfl,rfl,rfl⟩ rfl rfl rfl rfl rfl (by kernel_rfl) Tryz.func3 (by kernel_rfl)
  (of_decide_eq_true (by kernel_rfl)) (by unfold Func.isWrapper;first|(rw [if_pos (by decide+kernel)];kernel_rfl)|(rw [if_neg (by decide+kernel)];exact⟨rfl,rfl⟩))
  (fun os started H enc _=>ar9 os started H enc)
theorem topVolume_holds:Rows.TopVolumeCardSaid:=
 Claim7.holds_tied_plain_at .later [] [.data,.data] true (true, "6a4e29ba4d5b735d95e7319c2d5bc83d9057cffbc9b2b22c9cef58cf1a3b9d43") false
  ar_ (fun _ h=>by cases h) (by kernel_rfl) (fun _ h=>by cases h) topVolume_row_tie rfl ⟨rfl,rfl⟩ (by kernel_rfl) rfl
  (fun f fn hf yi=>by
   obtain rfl:f=3:=Option.some.inj ((show Tryz.prog.funcNamed "sawmill/sawmilltop.TopVolume"=some 3 by kernel_rfl).symm.trans hf)|>.symm
   obtain rfl:fn=Tryz.f3:=(Option.some.inj (Tryz.func3.symm.trans yi)).symm
   exact⟨by kernel_rfl,fun j t ht=>by
    rw [Tryz.params3] at ht;have hm:t∈[32,39,40]:=by simpa using Array.mem_of_getElem? ht
    have sj:([32,39,40].all fun u=>!Tryz.prog.wantsStandIn u)=true:=by kernel_rfl
    exact(show Tryz.prog.wantsStandIn t=false by simpa using List.all_eq_true.1 sj t hm)⟩)
  (by kernel_rfl)
end Go.Proofs.YtccnpbnokndeeaaGreatDoor
end
