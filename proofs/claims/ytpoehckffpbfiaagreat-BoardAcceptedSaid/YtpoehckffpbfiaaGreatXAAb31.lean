/- The abstract layer, part 31: calls that leave blocks as they are, freezing within a region, copy, arrays in slices. -/
import Derived.Test.YtpoehckffpbfiaaGreatXAAb27
import Derived.MapKept
namespace Go.Ab
open Go.RowKit
section
variable {P : Program} {o : Oper} {s : St}
theorem as_same {v : AV} {wr : Mem} {acc nw : List Nat} (h : AStep P o s ⟨v, wr, acc, nw⟩) (hnw : nw = []) (hw : ∀ b x, lk b wr = some x → b ∈ acc ∧ lk b s.m = some x) : AStep P o s ⟨v, [], acc, []⟩ := by
 subst hnw
 intro s' hn hop hacc _
 have h1 := h s' hn hop hacc (by simp)
 intro c a w next Q hs hnext
 refine h1 c a w next Q hs fun a' w' hs' => hnext a' w' ?_
 obtain ⟨φ, R, q⟩ := hs'
 have hS : Same (s'.app o.dst ⟨v, wr, acc, []⟩) (s'.app o.dst ⟨v, [], acc, []⟩) := ⟨rfl, fun _ => rfl, fun b => ?_⟩
 ·exact ⟨φ, R, hS.srelX q⟩
 show lk b (wr ++ s'.m) = lk b ([] ++ s'.m)
 rw [lk_append, List.nil_append]
 cases hq : lk b wr with
 | none => rfl
 | some x =>
  obtain ⟨g1, g2⟩ := hw b x hq
  rw [hacc b g1, g2]
  rfl
def sameM (m : Mem) : Mem → Prop
 | [] => True
 | (b, x) :: l => lk b m = some x ∧ sameM m l
theorem sameM_get {m : Mem} : ∀ {W : Mem}, sameM m W → ∀ b x, lk b W = some x → lk b m = some x
 | [], _, b, x, h => by simp [lk] at h
 | (b', x') :: l, hW, b, x, h => by
  rw [lk_cons] at h
  split at h
  ·subst_vars
   cases h
   exact hW.1
  ·exact sameM_get hW.2 b x h
theorem newNames_nil {ρ : Rho} : ∀ {W : Mem}, (W.all fun p => (srcs ρ).contains p.1) = true → newNames ρ W = []
 | [], _ => rfl
 | (t, x) :: l, h => by
  rw [List.all_cons, Bool.and_eq_true] at h
  simp only [newNames, h.1]
  exact newNames_nil h.2
variable {tt : TT} {ops : Array Oper} {draw : Bool} {Q : St → Prop} {acc : List (Option Eff)} {l : List Oper}
theorem go_callR {o : Oper} {n f : Nat} {t t' : List (Nat × AV)} {m : Mem} {fo : Operand} {xs : Array Operand} {tys : Array TypeId} {fs cs axs avs args : List AV} {M M' : Mem} {r : AV} (v : AV) (L W : Mem) (ρ σ : Rho) (hf : FnOK P f) (H : Holds P f args M r M') (hg : gchk ops ⟨n, t, m⟩ o = some true) (ho : o.op = fcall fo xs tys)
  (hfo : (⟨n, t, m⟩ : St).ev fo = .clo f fs cs) (hax : forceL ⟨n, t, m⟩ xs.toList = some axs) (hav : fs ++ axs ++ cs = avs) (hL : lendsOK ρ m L) (hargs : wkL L ρ avs args) (hi : injB ρ = true) (hk : (ρ.all fun p => (lk p.1 M).isSome) = true) (hM : wkM ρ m M)
  (hσi : injB σ = true) (hσk : (σ.all fun p => (lk p.1 W).isSome) = true) (hW : wkM σ M' W) (hv : wkP [] σ r v) (hback : backOK ρ M σ W = true) (hns : L ≠ [] → noSl v = true ∧ noSlW W) (hsame : sameM m W) (hall : ((srcs ρ).all fun b => (lk b W).isSome) = true) (hin : (W.all fun p => (srcs ρ).contains p.1) = true)
  (hp : putF n t o.dst v = some t') (h : Go P ops draw Q l ⟨n, t', m⟩ (some ⟨v, [], srcs ρ ++ L.map (·.1), []⟩ :: acc)) : Go P ops draw Q (o :: l) ⟨n, t, m⟩ acc := by
 obtain ⟨fn, h1, h2, h3⟩ := hf
 have hA := as_call (M := M) (M' := M') (L := L) (W := W) (ρ := ρ) (σ := σ) (s := ⟨n, t, m⟩) ho h1 h2 h3 hfo (by rw [forceL_eq _ _ _ hax]; exact hav) H hL hargs hi hk hM hσi hσk hW hv hback hns
 refine go_step hg (as_same hA (newNames_nil hin) fun b x hb => ?_) rfl hp rfl h
 rw [lk_append] at hb
 cases hq : lk b W with
 | some y =>
  rw [hq] at hb
  cases hb
  have hmem := List.all_eq_true.1 hin _ (lk_mem hq)
  exact ⟨by simp at hmem; simp [hmem], sameM_get hsame b x hq⟩
 | none =>
  rw [hq] at hb
  have hb' : lk b (deadL (srcs ρ)) = some x := hb
  rw [lk_deadL] at hb'
  split at hb'
  ·rename_i hin'
   have := List.all_eq_true.1 hall b hin'
   rw [hq] at this
   cases this
  ·cases hb'
variable {lim : Nat}
variable {n : Nat} {t : List (Nat × AV)} {m : Mem}
end
end Go.Ab
