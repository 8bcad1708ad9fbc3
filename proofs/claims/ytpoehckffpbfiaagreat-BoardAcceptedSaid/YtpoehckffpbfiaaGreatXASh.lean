/- Sh: what functions of the program compute (written by gen.py). -/
import Derived.Test.YtpoehckffpbfiaaGreatXAF1
import Derived.KernelRfl
namespace Go.Proofs.YtpoehckffpbfiaaGreat
open Go Go.Ab
set_option linter.unusedSimpArgs false
set_option linter.unusedVariables false
theorem i64_ok {n : Int} (h : IntKind.i64.min ≤ n ∧ n ≤ IntKind.i64.max) : I64 n := h
theorem of_list {α : Type} {enc : α → AV} {ok : α → Prop} : ∀ {xs : List AV}, (∀ x, x ∈ xs → ∃ d, x = enc d ∧ ok d) → ∃ l : List α, xs = l.map enc ∧ ∀ d, d ∈ l → ok d
 | [], _ => ⟨[], rfl, by simp⟩
 | x :: xs, h => by
  obtain ⟨d, rfl, hd⟩ := h x (by simp)
  obtain ⟨l, rfl, hl⟩ := of_list (xs := xs) fun y hy => h y (by simp [hy])
  refine ⟨d :: l, rfl, ?_⟩
  intro e he
  rcases List.mem_cons.1 he with rfl | he
  ·exact hd
  ·exact hl e he
theorem c_int {cs : List AV} (h : CellsOf (.int .i64) cs) : ∃ n, cs = [I n] ∧ I64 n := by
 rw [CellsOf] at h
 obtain ⟨n, rfl, h⟩ := h
 exact ⟨n, rfl, i64_ok h⟩
def shSp : Sh := .struct [.int .i64, .int .i64]
def shBx : Sh := .struct [shSp, shSp, shSp]
def shDf : Sh := .struct [.int .i64, shBx]
theorem c_sp {cs : List AV} (h : CellsOf shSp cs) : ∃ s : Sp, cs = [I s.a, I s.b] ∧ s.ok := by
 unfold shSp at h
 rw [CellsOf, CellsAll] at h
 obtain ⟨x, y, rfl, h1, h2⟩ := h
 rw [CellsAll] at h2
 obtain ⟨y, z, rfl, h2, h3⟩ := h2
 rw [CellsAll] at h3
 subst h3
 obtain ⟨a, rfl, ha⟩ := c_int h1
 obtain ⟨b, rfl, hb⟩ := c_int h2
 exact ⟨⟨a, b⟩, rfl, ha, hb⟩
theorem c_bx {cs : List AV} (h : CellsOf shBx cs) : ∃ b : Bx, cs = [I b.x.a, I b.x.b, I b.y.a, I b.y.b, I b.z.a, I b.z.b] ∧ b.ok := by
 unfold shBx at h
 rw [CellsOf, CellsAll] at h
 obtain ⟨_, y, rfl, h1, h2⟩ := h
 rw [CellsAll] at h2
 obtain ⟨_, z, rfl, h2, h3⟩ := h2
 rw [CellsAll] at h3
 obtain ⟨_, t, rfl, h3, h4⟩ := h3
 rw [CellsAll] at h4
 subst h4
 obtain ⟨a, rfl, ha⟩ := c_sp h1
 obtain ⟨b, rfl, hb⟩ := c_sp h2
 obtain ⟨c, rfl, hc⟩ := c_sp h3
 exact ⟨⟨a, b, c⟩, rfl, ha, hb, hc⟩
theorem c_df {cs : List AV} (h : CellsOf shDf cs) : ∃ d : Df, cs = [I d.k, I d.b.x.a, I d.b.x.b, I d.b.y.a, I d.b.y.b, I d.b.z.a, I d.b.z.b] ∧ d.ok := by
 unfold shDf at h
 rw [CellsOf, CellsAll] at h
 obtain ⟨_, y, rfl, h1, h2⟩ := h
 rw [CellsAll] at h2
 obtain ⟨_, z, rfl, h2, h3⟩ := h2
 rw [CellsAll] at h3
 subst h3
 obtain ⟨k, rfl, hk⟩ := c_int h1
 obtain ⟨b, rfl, hb⟩ := c_bx h2
 exact ⟨⟨k, b⟩, rfl, hk, hb⟩
theorem of3 {s1 s2 s3 : Sh} {xs : List AV} (h : OfAll [s1, s2, s3] xs) : ∃ a1 a2 a3, xs = [a1, a2, a3] ∧ Of s1 a1 ∧ Of s2 a2 ∧ Of s3 a3 := by
 match xs, h with
 | [a1, a2, a3], h => exact ⟨a1, a2, a3, rfl, h.1, h.2.1, h.2.2.1⟩
end Go.Proofs.YtpoehckffpbfiaaGreat
