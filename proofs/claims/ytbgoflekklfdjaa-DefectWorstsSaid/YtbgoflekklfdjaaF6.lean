/- F6: what functions of the program compute (written by gen.py). -/
import Derived.Test.YtbgoflekklfdjaaF5
import Derived.KernelRfl
namespace Go.Proofs.Ytbgoflekklfdjaa
open Go Go.Ab
set_option linter.unusedSimpArgs false
set_option linter.unusedVariables false

def aw1 : List Df := [⟨1, ⟨⟨10, 30⟩, ⟨0, 5⟩, ⟨100, 140⟩⟩⟩]
def awk : List Df := [⟨1, ⟨⟨0, 10⟩, ⟨0, 10⟩, ⟨0, 10⟩⟩⟩, ⟨2, ⟨⟨0, 20⟩, ⟨0, 10⟩, ⟨100, 120⟩⟩⟩, ⟨1, ⟨⟨0, 1⟩, ⟨0, 30⟩, ⟨140, 150⟩⟩⟩]
def awb : Bx := ⟨⟨20, 60⟩, ⟨0, 40⟩, ⟨120, 900⟩⟩
def awc : List Df := [⟨1, ⟨⟨0, 10⟩, ⟨0, 5⟩, ⟨0, 20⟩⟩⟩]
def awt : List Df := [⟨1, ⟨⟨-5, 0⟩, ⟨10, 30⟩, ⟨100, 140⟩⟩⟩]
def aw7 : List Df := [⟨7, zeroB⟩]
instance (n : Int) : Decidable (I64 n) := inferInstanceAs (Decidable (_ ∧ _))
instance (s : Sp) : Decidable s.ok := inferInstanceAs (Decidable (_ ∧ _))
instance (s : Bx) : Decidable s.ok := inferInstanceAs (Decidable (_ ∧ _))
instance (s : Df) : Decidable s.ok := inferInstanceAs (Decidable (_ ∧ _))
instance (s : List Df) : Decidable (Oks s) := inferInstanceAs (Decidable (∀ d, d ∈ s → d.ok))
theorem aw_check : Holds Try.prog 33 [.sl (aw1.map encDf)] [] (I 0) [] := by
  have h := dcheckL_h aw1 (by decide)
  rwa [show checkL aw1 = 0 by decide +kernel] at h
theorem aw_check7 : Holds Try.prog 33 [.sl (aw7.map encDf)] [] (I 10) [] := by
  have h := dcheckL_h aw7 (by decide)
  rwa [show checkL aw7 = 10 by decide +kernel] at h
theorem aw_touch : Holds Try.prog 38 [encDf ⟨1, ⟨⟨10, 30⟩, ⟨0, 5⟩, ⟨100, 140⟩⟩⟩, encBx awb] [] (B true) [] := by
  have h := touches_h ⟨1, ⟨⟨10, 30⟩, ⟨0, 5⟩, ⟨100, 140⟩⟩⟩ awb
  rwa [show touchB _ awb = true by decide +kernel] at h
theorem aw_clip : Holds Try.prog 41 [.sl (aw1.map encDf), encBx awb] [] (.sl (awc.map encDf)) [] := by
  have h := clip_h aw1 awb (by decide)
  rwa [show clipD aw1 awb = awc by decide +kernel] at h
theorem aw_turn : Holds Try.prog 43 [.sl (aw1.map encDf), I 1] [] (.sl (awt.map encDf)) [] := by
  have h := turn_h aw1 1 (by decide)
  rwa [show turnD aw1 1 = awt by decide +kernel] at h
theorem aw_same (a : List Df) (h : a.length ≤ 9223372036854775807) : Holds Try.prog 40 [.sl (a.map encDf), .sl (a.map encDf)] [] (B true) [] := by
  have h := same_h a a h
  rwa [show decide (a = a) = true by simp] at h
theorem aw_count : Holds Try.prog 34 [.sl (awk.map encDf), I 1] [] (I 2) [] := by
  have h := count_h awk 1 (by decide)
  rwa [show countD awk 1 = 2 by decide +kernel] at h
theorem aw_size : Holds Try.prog 31 [encDf ⟨1, ⟨⟨0, 1⟩, ⟨0, 30⟩, ⟨140, 150⟩⟩⟩] [] (I 30) [] := by
  have h := dsize_h ⟨1, ⟨⟨0, 1⟩, ⟨0, 30⟩, ⟨140, 150⟩⟩⟩ (by decide)
  rwa [show sizeD _ = 30 by decide +kernel] at h
theorem aw_largest : Holds Try.prog 36 [.sl (awk.map encDf), I 2] [] (I 20) [] := by
  have h := largest_h awk 2 (by decide) (by decide)
  rwa [show largestD awk 2 = 20 by decide +kernel] at h
theorem aw_worst : Holds Try.prog 45 [.sl (awk.map encDf), I 100] [] (I 50) [] := by
  have h := worst_h awk 100 (by decide) (by decide)
  rwa [show worstD awk 100 = 50 by decide +kernel] at h


theorem few13_h (l : List Df) : Holds Try.prog 29 [.sl (l.map encDf)] [] (B (decide ((l.length : Int) ≤ 100))) [] := by
  refine holds_fn Try.func29 rfl Try.ntmps29 rfl rfl rfl ?_
  refine awp_seq ?_
  refine awp_go hmix ?_
  refine go_run' ttok 1 rfl ?_
  refine go_nil nd ?_
  refine then_norm ?_
  refine awp_seq ?_
  refine awp_go hmix ?_
  refine go_run' ttok 4 rfl ?_
  refine go_nil nd ?_
  refine then_norm ?_
  refine awp_ret ?_
  refine ret_ret ?_
  refine fin0 ttok rfl rfl ?_
  show decide _ = decide _
  rw [List.length_map]

theorem awake13_h : Holds Try.prog 30 [] [] (B true) [] := by
  refine holds_fn Try.func30 rfl Try.ntmps30 rfl rfl rfl ?_
  refine awp_seq ?_
  refine awp_go hmix ?_
  refine go_run' ttok 1 rfl ?_
  refine go_nil nd ?_
  refine then_norm ?_
  refine awp_seq ?_
  refine awp_go hmix ?_
  refine go_call fn48 (lbox_h _ _ _ _ _ _) rfl rfl rfl rfl rfl rfl rfl ?_
  refine go_run' ttok 3 rfl ?_
  refine go_nil nd ?_
  refine then_norm ?_
  refine awp_seq ?_
  refine awp_go hmix ?_
  refine go_call fn48 (lbox_h _ _ _ _ _ _) rfl rfl rfl rfl rfl rfl rfl ?_
  refine go_run' ttok 1 rfl ?_
  refine go_call fn48 (lbox_h _ _ _ _ _ _) rfl rfl rfl rfl rfl rfl rfl ?_
  refine go_run' ttok 1 rfl ?_
  refine go_call fn48 (lbox_h _ _ _ _ _ _) rfl rfl rfl rfl rfl rfl rfl ?_
  refine go_run' ttok 3 rfl ?_
  refine go_nil nd ?_
  refine then_norm ?_
  refine awp_seq ?_
  refine awp_freeze [] [] [(6, some ⟨41, 7, aw1.map encDf⟩), (13, some ⟨41, 7, awk.map encDf⟩)] [(1, .sl (aw1.map encDf)), (2, .sl (awk.map encDf))] rfl rfl rfl rfl rfl ⟨rfl, List.not_mem_nil, rfl, List.not_mem_nil, trivial⟩ ⟨⟨by decide, rfl, nr_df _⟩, ⟨by decide, rfl, nr_df _⟩, trivial⟩ ?_
  refine awp_go hmix ?_
  refine go_call fn48 (lbox_h _ _ _ _ _ _) rfl rfl rfl rfl rfl rfl rfl ?_
  refine go_run' ttok 2 rfl ?_
  refine go_nil nd ?_
  refine then_norm ?_
  refine awp_seq ?_
  refine awp_go hmix ?_
  refine go_run' ttok 1 rfl ?_
  refine go_call fn33 aw_check rfl rfl rfl rfl rfl rfl rfl ?_
  refine go_run' ttok 4 rfl ?_
  refine go_callL fn33 (L := [(20, some ⟨41, 7, aw7.map encDf⟩)]) aw_check7 rfl rfl rfl ⟨rfl, List.not_mem_nil, trivial⟩ ⟨⟨by decide, rfl, nr_df _⟩, trivial⟩ rfl rfl (fun _ => rfl) rfl ?_
  refine go_run' ttok 7 rfl ?_
  refine go_call fn38 aw_touch rfl rfl rfl rfl rfl rfl rfl ?_
  refine go_run' ttok 4 rfl ?_
  refine go_call fn41 aw_clip rfl rfl rfl rfl rfl rfl rfl ?_
  refine go_call fn48 (lbox_h _ _ _ _ _ _) rfl rfl rfl rfl rfl rfl rfl ?_
  refine go_run' ttok 2 rfl ?_
  refine go_callL fn40 (L := [(37, some ⟨41, 7, awc.map encDf⟩)]) (aw_same awc (by decide)) rfl rfl rfl ⟨rfl, List.not_mem_nil, trivial⟩ ⟨rfl, ⟨by decide, rfl, nr_df _⟩, trivial⟩ rfl rfl (fun _ => rfl) rfl ?_
  refine go_run' ttok 3 rfl ?_
  refine go_call fn43 aw_turn rfl rfl rfl rfl rfl rfl rfl ?_
  refine go_call fn48 (lbox_h _ _ _ _ _ _) rfl rfl rfl rfl rfl rfl rfl ?_
  refine go_run' ttok 2 rfl ?_
  refine go_callL fn40 (L := [(45, some ⟨41, 7, awt.map encDf⟩)]) (aw_same awt (by decide)) rfl rfl rfl ⟨rfl, List.not_mem_nil, trivial⟩ ⟨rfl, ⟨by decide, rfl, nr_df _⟩, trivial⟩ rfl rfl (fun _ => rfl) rfl ?_
  refine go_run' ttok 3 rfl ?_
  refine go_call fn34 aw_count rfl rfl rfl rfl rfl rfl rfl ?_
  refine go_run' ttok 6 rfl ?_
  refine go_call fn31 aw_size rfl rfl rfl rfl rfl rfl rfl ?_
  refine go_run' ttok 4 rfl ?_
  refine go_call fn36 aw_largest rfl rfl rfl rfl rfl rfl rfl ?_
  refine go_run' ttok 4 rfl ?_
  refine go_call fn45 aw_worst rfl rfl rfl rfl rfl rfl rfl ?_
  refine go_run' ttok 3 rfl ?_
  refine go_nil (fun _ => by kernel_rfl) ?_
  refine then_norm ?_
  refine awp_ret ?_
  refine ret_ret ?_
  refine fin0 ttok rfl rfl ?_
  exact rfl

end Go.Proofs.Ytbgoflekklfdjaa
