/- The abstract layer, part 24: calls with blocks that are handed over; pointers that are compared with nil. -/
import Derived.Test.YtpoehckffpbfiaaGreatXAAb23
namespace Go.Ab
open Go.RowKit
theorem nsl_one {v : AV} (h : noSl v = true) : ∀ y ∈ [v], noSl y = true := by
 intro y hy
 rw [List.mem_singleton] at hy
 subst hy
 exact h
theorem nsl_map {α : Type} {enc : α → AV} (h : ∀ x, noSl (enc x) = true) (xs : List α) : ∀ y ∈ xs.map enc, noSl y = true := by
 intro y hy
 obtain ⟨x, _, rfl⟩ := List.mem_map.1 hy
 exact h x
section
variable {P : Program} {tt : TT} {ops : Array Oper} {draw : Bool} {Q : St → Prop} {acc : List (Option Eff)} {l : List Oper}
theorem go_callM {o : Oper} {n f : Nat} {t t' : List (Nat × AV)} {m m' : Mem} {fo : Operand} {xs : Array Operand} {tys : Array TypeId} {fs cs axs avs args : List AV} {M M' : Mem} {r : AV} (v : AV) (L W : Mem) (ρ σ : Rho) (hf : FnOK P f) (H : Holds P f args M r M') (hg : gchk ops ⟨n, t, m⟩ o = some true) (ho : o.op = fcall fo xs tys)
  (hfo : (⟨n, t, m⟩ : St).ev fo = .clo f fs cs) (hax : forceL ⟨n, t, m⟩ xs.toList = some axs) (hav : fs ++ axs ++ cs = avs) (hL : lendsOK ρ m L) (hargs : wkL L ρ avs args) (hi : injB ρ = true) (hk : (ρ.all fun p => (lk p.1 M).isSome) = true) (hM : wkM ρ m M)
  (hσi : injB σ = true) (hσk : (σ.all fun p => (lk p.1 W).isSome) = true) (hW : wkM σ M' W) (hv : wkP [] σ r v) (hback : backOK ρ M σ W = true) (hns : L ≠ [] → noSl v = true ∧ noSlW W) (hnw : nwOK ⟨n, t, m⟩ (newNames ρ W) = true)
  (hp : putF n t o.dst v = some t') (hm : appF (W ++ deadL (srcs ρ)) m = some m')
  (h : Go P ops draw Q l ⟨n, t', m'⟩ (some ⟨v, W ++ deadL (srcs ρ), srcs ρ ++ L.map (·.1), newNames ρ W⟩ :: acc)) : Go P ops draw Q (o :: l) ⟨n, t, m⟩ acc := by
 obtain ⟨fn, h1, h2, h3⟩ := hf
 exact go_step hg (as_call (M := M) (M' := M') (L := L) (W := W) (ρ := ρ) (σ := σ) ho h1 h2 h3 hfo (by rw [forceL_eq _ _ _ hax]; exact hav) H hL hargs hi hk hM hσi hσk hW hv hback hns) hnw hp hm h
theorem go_callC {o : Oper} {n f : Nat} {t t' : List (Nat × AV)} {m : Mem} {fo : Operand} {xs : Array Operand} {tys : Array TypeId} {fs cs axs avs args : List AV} {L : Mem} {r v : AV} (hf : FnOK P f) (H : Holds P f args [] r []) (hg : gchk ops ⟨n, t, m⟩ o = some true) (ho : o.op = fcall fo xs tys)
  (hfo : (⟨n, t, m⟩ : St).ev fo = .clo f fs cs) (hax : forceL ⟨n, t, m⟩ xs.toList = some axs) (hav : fs ++ axs ++ cs = avs) (hL : lendsOK [] m L) (hargs : wkL L [] avs args) (hv : force r = some v) (hr : noref v = true) (hns : L ≠ [] → noSl v = true) (hp : putF n t o.dst v = some t')
  (h : Go P ops draw Q l ⟨n, t', m⟩ (some ⟨v, [], L.map (·.1), []⟩ :: acc)) : Go P ops draw Q (o :: l) ⟨n, t, m⟩ acc := by
 obtain ⟨fn, h1, h2, h3⟩ := hf
 have hvr := force_eq hv
 subst hvr
 exact go_step hg (as_call (M := []) (M' := []) (L := L) (W := []) (ρ := []) (σ := []) ho h1 h2 h3 hfo (by rw [forceL_eq _ _ _ hax]; exact hav) H hL hargs rfl rfl trivial rfl rfl trivial (wkP_refl r hr) rfl (fun hne => ⟨hns hne, trivial⟩)) rfl hp rfl h
variable {o : Oper} {s : St}
theorem eqIn_nil (d t e : Nat) (p : Option Addr) (h : P.underlying t = some (.pointer e)) (w : World) : (Op.equalIn (d + 1) t (.pointer p) (.pointer none)).run P w = .ok p.isNone w := by
 cases p <;> simp [Op.equalIn, run_underlying h]
theorem eq_nil (t e : Nat) (p : Option Addr) (h : P.underlying t = some (.pointer e)) (w : World) : (Op.equal t (.pointer p) (.pointer none)).run P w = .ok p.isNone w := eqIn_nil 9999 t e p h w
theorem as_refNil {op : BinOp} {t ty e b i off : Nat} {x y : Operand} {v : Bool} (hop : (op = .eql ∧ v = false) ∨ (op = .neq ∧ v = true)) (ho : o.op = .binOp op t x y ty) (ht : P.underlying t = some (.pointer e)) (hx : s.ev x = .ref b i off) (hy : s.ev y = .sc (.pointer none)) : AStep P o s ⟨.sc (.bool v), [], [], []⟩ := by
 intro s' _ hop' _ _
 refine opok_val fun c φ R a w hs => ?_
 have h1 := hs.ev x
 rw [hop' x (by simp [ho, Op.operands]), hx] at h1
 have h2 := hs.ev y
 rw [hop' y (by simp [ho, Op.operands]), hy] at h2
 have h2 := h2.sc_inv
 generalize hq : a.eval x = q at h1
 cases h1 with
 | ref hb =>
  refine ⟨.bool v, ?_, .sc rfl⟩
  rcases hop with ⟨rfl, rfl⟩ | ⟨rfl, rfl⟩
  ·simp [execOp, ho, hq, h2, eqGuard, binOp, eq_nil t e _ ht]
  ·simp [execOp, ho, hq, h2, eqGuard, binOp, eq_nil t e _ ht]
theorem as_nilNil {op : BinOp} {t ty e : Nat} {x y : Operand} {v : Bool} (hop : (op = .eql ∧ v = true) ∨ (op = .neq ∧ v = false)) (ho : o.op = .binOp op t x y ty) (ht : P.underlying t = some (.pointer e)) (hx : s.ev x = .sc (.pointer none)) (hy : s.ev y = .sc (.pointer none)) : AStep P o s ⟨.sc (.bool v), [], [], []⟩ := by
 refine as_bin ho hx hy (fun w => ?_) (fun w => ?_) rfl
 ·rcases hop with ⟨rfl, rfl⟩ | ⟨rfl, rfl⟩ <;> rfl
 ·rcases hop with ⟨rfl, rfl⟩ | ⟨rfl, rfl⟩ <;> simp [binOp, eq_nil t e _ ht]
end
end Go.Ab
