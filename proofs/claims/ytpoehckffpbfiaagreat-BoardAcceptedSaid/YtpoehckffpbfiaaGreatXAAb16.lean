/- The abstract layer, part 16: loops, elements. -/
import Derived.Test.YtpoehckffpbfiaaGreatXAAb15
namespace Go.Ab
open Go.RowKit
variable {lim : Nat}
section
variable {P : Program} {tt : TT}
def keepF (t : List (Nat × AV)) : List Nat → Option (List (Nat × AV))
 | [] => some []
 | k :: l => match lk k t with
  | none => none
  | some v => match force v with
   | none => none
   | some u => match keepF t l with
    | none => none
    | some r => some ((k, u) :: r)
def keepM (m : Mem) : List Nat → Option Mem
 | [] => some []
 | b :: l => match lk b m with
  | some (some k) => match keepM m l with
   | none => none
   | some r => some ((b, some k) :: r)
  | _ => none
mutual
def idOK (ρ : Rho) : AV → Bool
 | .ref b _ _ => match lk b ρ with
  | some (some b') => Nat.beq b' b
  | _ => false
 | .arr b _ _ => match lk b ρ with
  | some (some b') => Nat.beq b' b
  | _ => false
 | .mpv b _ _ => match lk b ρ with
  | some (some b') => Nat.beq b' b
  | _ => false
 | .agg cs => idOKL ρ cs
 | .tup cs => idOKL ρ cs
 | .clo _ a b => idOKL ρ a && idOKL ρ b
 | _ => true
def idOKL (ρ : Rho) : List AV → Bool
 | [] => true
 | c :: cs => idOK ρ c && idOKL ρ cs
end
theorem idB {ρ : Rho} {b : Nat} (h : (match lk b ρ with | some (some b') => Nat.beq b' b | _ => false) = true) : lk b ρ = some (some b) := by
 cases hq : lk b ρ with
 | none => simp [hq] at h
 | some o =>
  cases o with
  | none => simp [hq] at h
  | some b' =>
   simp only [hq] at h
   have := Nat.eq_of_beq_eq_true h
   subst this
   rfl
mutual
theorem wkP_id {m : Mem} {ρ : Rho} : ∀ (a : AV), idOK ρ a = true → wkP m ρ a a
 | .bot, _ => by simp [wkP]
 | .sc v, _ => by
  simp only [wkP]
  unfold scEq
  split
  ·simp_all
  ·simp_all
  ·rfl
 | .nilS, _ => by simp [wkP]
 | .agg cs, h => by simp only [wkP]; exact wkL_id cs (by simpa [idOK] using h)
 | .tup cs, h => by simp only [wkP]; exact wkL_id cs (by simpa [idOK] using h)
 | .sl xs, _ => by simp [wkP]
 | .vp cs, _ => by simp [wkP]
 | .ref b _ _, h => by simp only [wkP]; exact ⟨idB (by simpa only [idOK] using h), trivial, trivial⟩
 | .arr b _ _, h => by simp only [wkP]; exact ⟨idB (by simpa only [idOK] using h), trivial, trivial⟩
 | .clo _ a b, h => by
  simp only [idOK, Bool.and_eq_true] at h
  simp only [wkP]
  exact ⟨trivial, wkL_id a h.1, wkL_id b h.2⟩
 | .mpv b _ _, h => by simp only [wkP]; exact ⟨idB (by simpa only [idOK] using h), trivial, trivial⟩
 | .slx _, _ => by simp [wkP]
theorem wkL_id {m : Mem} {ρ : Rho} : ∀ (l : List AV), idOKL ρ l = true → wkL m ρ l l
 | [], _ => by simp [wkL]
 | a :: l, h => by
  simp only [idOKL, Bool.and_eq_true] at h
  simp only [wkL]
  exact ⟨wkP_id a h.1, wkL_id l h.2⟩
end
theorem lenL_refl : ∀ (l : List AV), lenL l l
 | [] => trivial
 | _ :: l => ⟨rfl, lenL_refl l⟩
def idT (ρ : Rho) : List (Nat × AV) → Bool
 | [] => true
 | (_, v) :: l => idOK ρ v && idT ρ l
def idM (ρ : Rho) : Mem → Bool
 | [] => true
 | (b, some k) :: l => (match lk b ρ with | some (some b') => Nat.beq b' b | _ => false) && idOKL ρ k.xs && idM ρ l
 | (_, none) :: _ => false
theorem keepF_wk {ρ : Rho} {n : Nat} {t : List (Nat × AV)} {m : Mem} : ∀ {K : List Nat} {kt : List (Nat × AV)}, keepF t K = some kt → idT ρ kt = true → wkT ρ ⟨n, t, m⟩ kt
 | [], kt, h, _ => by simp [keepF] at h; subst h; trivial
 | k :: l, kt, h, hi => by
  simp only [keepF] at h
  cases h1 : lk k t with
  | none => simp [h1] at h
  | some v =>
   cases h2 : force v with
   | none => simp [h1, h2] at h
   | some u =>
    cases h3 : keepF t l with
    | none => simp [h1, h2, h3] at h
    | some r =>
     simp [h1, h2, h3] at h
     subst h
     simp only [idT, Bool.and_eq_true] at hi
     have := force_eq h2
     subst this
     refine ⟨?_, keepF_wk h3 hi.2⟩
     have hg : St.get ⟨n, t, m⟩ k = v := by simp [St.get, h1]
     rw [hg]
     exact wkP_id v hi.1
theorem keepM_wk {ρ : Rho} {m : Mem} : ∀ {K : List Nat} {km : Mem}, keepM m K = some km → idM ρ km = true → wkM ρ m km
 | [], km, h, _ => by simp [keepM] at h; subst h; trivial
 | b :: l, km, h, hi => by
  simp only [keepM] at h
  cases h1 : lk b m with
  | none => simp [h1] at h
  | some ok =>
   cases ok with
   | none => simp [h1] at h
   | some k =>
    cases h3 : keepM m l with
    | none => simp [h1, h3] at h
    | some r =>
     simp [h1, h3] at h
     subst h
     simp only [idM, Bool.and_eq_true] at hi
     refine ⟨?_, keepM_wk h3 hi.2⟩
     rw [idB hi.1.1]
     exact ⟨k, h1, rfl, rfl, .inr ⟨wkL_id _ hi.1.2, lenL_refl _⟩⟩
theorem wkT_append {ρ : Rho} {s : St} : ∀ {a b : List (Nat × AV)}, wkT ρ s a → wkT ρ s b → wkT ρ s (a ++ b)
 | [], _, _, h => h
 | (_, _) :: _, _, h, h' => ⟨h.1, wkT_append h.2 h'⟩
theorem wkM_append {ρ : Rho} {m : Mem} : ∀ {a b : Mem}, wkM ρ m a → wkM ρ m b → wkM ρ m (a ++ b)
 | [], _, _, h => h
 | (_, none) :: _, _, h, _ => by simp [wkM] at h
 | (_, some _) :: _, _, h, h' => ⟨h.1, wkM_append h.2 h'⟩
structure Fits (K KB : List Nat) (kt : List (Nat × AV)) (km : Mem) (ρ : Rho) (s : St) (mt : List (Nat × AV)) (mm : Mem) : Prop where
 k : keepF s.t K = some kt
 kb : keepM s.m KB = some km
 rho : rhoOK ρ (mm ++ km) = true
 idt : idT ρ kt = true
 idm : idM ρ km = true
 t : wkT ρ s mt
 m : wkM ρ s.m mm
theorem awp_loopK {X : Type} {body : Code} {Q : Exit → St → Prop} {n : Nat} {t : List (Nat × AV)} {m : Mem} (K KB : List Nat) (mt : X → List (Nat × AV)) (mm : X → Mem) (μ : X → Nat) (x0 : X) (ρ0 : Rho) {kt : List (Nat × AV)} {km : Mem}
  (h0 : Fits K KB kt km ρ0 ⟨n, t, m⟩ (mt x0) (mm x0))
  (step : ∀ x, AWP P lim body (thenQ (fun s' => s'.n = n ∧ ∃ x' ρ, Fits K KB kt km ρ s' (mt x') (mm x') ∧ μ x' < μ x) Q) ⟨n, mt x ++ kt, mm x ++ km⟩) : AWP P lim (.loop body) Q ⟨n, t, m⟩ := by
 refine awp_loop (fun x => ⟨n, mt x ++ kt, mm x ++ km⟩) μ x0 ⟨ρ0, rfl, h0.rho, wkT_append h0.t (keepF_wk h0.k h0.idt), wkM_append h0.m (keepM_wk h0.kb h0.idm)⟩ (fun x => ?_)
 intro c hc0 a w hs
 refine wp_mono (step x c hc0 a w hs) ?_
 rintro e a' w' ⟨s', hs', hq⟩
 refine ⟨s', hs', ?_⟩
 cases e with
 | normal =>
  obtain ⟨hn, x', ρ, hf, hlt⟩ := hq
  obtain ⟨n', t', m'⟩ := s'
  exact ⟨x', ρ, ⟨hn, hf.rho, wkT_append hf.t (keepF_wk hf.k hf.idt), wkM_append hf.m (keepM_wk hf.kb hf.idm)⟩, hlt⟩
 | _ => exact hq
variable {ops : Array Oper} {draw : Bool} {Q : St → Prop} {acc : List (Option Eff)} {l : List Oper}
theorem go_index {o : Oper} {n ty el : Nat} {t t' : List (Nat × AV)} {m : Mem} {x y : Operand} {D E : TyD} {k : IntKind} {i : Int} {xs : List AV} {ev : AV} (ht : TTok P tt) (hi0 : 0 ≤ i) (he : xs[i.toNat]? = some ev) (hg : gchk ops ⟨n, t, m⟩ o = some true) (ho : o.op = .indexAddr ty x y) (hD : lk ty tt = some D) (hk : D.k = .slice el) (hE : lk el tt = some E)
  (hx : (⟨n, t, m⟩ : St).ev x = .sl xs) (hy : (⟨n, t, m⟩ : St).ev y = .sc (.int k i)) (hl : Nat.beq ev.cells.length E.size = true) (hp : putF n t o.dst (.vp ev.cells) = some t') (h : Go P ops draw Q l ⟨n, t', m⟩ (some ⟨.vp ev.cells, [], [], []⟩ :: acc)) : Go P ops draw Q (o :: l) ⟨n, t, m⟩ acc :=
 go_step hg (as_index_sl ho (ht _ _ hD) hk (ht _ _ hE) hx hy hi0 he hl) rfl hp rfl h
def resF (tt : TT) (s : St) : List ResultVar → Option (List AV)
 | [] => some []
 | .tmp t :: l => match force (s.get t) with
  | none => none
  | some v => match resF tt s l with
   | none => none
   | some r => some (v :: r)
 | .cell a t :: l => match s.get a with
  | .ref b i off => match lk b s.m with
   | some (some k) => match lk t tt with
    | none => none
    | some D => match getL k.xs i with
     | none => none
     | some e => match rd D e.cells off with
      | none => none
      | some v => match resF tt s l with
       | none => none
       | some r => some (v :: r)
   | _ => none
  | _ => none
theorem resF_ok (ht : TTok P tt) {s : St} : ∀ {rs : List ResultVar} {vs : List AV}, resF tt s rs = some vs → ResOK P s rs vs
 | [], vs, h => by simp [resF] at h; subst h; trivial
 | .tmp t :: l, vs, h => by
  simp only [resF] at h
  cases h1 : force (s.get t) with
  | none => simp [h1] at h
  | some v =>
   cases h2 : resF tt s l with
   | none => simp [h1, h2] at h
   | some r =>
    simp [h1, h2] at h
    subst h
    exact ⟨force_eq h1, resF_ok ht h2⟩
 | .cell a t :: l, vs, h => by
  simp only [resF] at h
  cases h1 : s.get a with
  | ref b i off =>
   simp only [h1] at h
   cases h2 : lk b s.m with
   | none => simp [h2] at h
   | some ok =>
    cases ok with
    | none => simp [h2] at h
    | some k =>
     simp only [h2] at h
     cases h3 : lk t tt with
     | none => simp [h3] at h
     | some D =>
      simp only [h3] at h
      cases h4 : getL k.xs i with
      | none => simp [h4] at h
      | some e =>
       simp only [h4] at h
       cases h5 : rd D e.cells off with
       | none => simp [h5] at h
       | some v =>
        simp only [h5] at h
        cases h6 : resF tt s l with
        | none => simp [h6] at h
        | some r =>
         simp [h6] at h
         subst h
         exact ⟨⟨D, b, i, off, k, e, ht _ _ h3, h1, h2, getL_eq _ _ _ h4, h5⟩, resF_ok ht h6⟩
  | _ => simp [h1] at h
def retF : List AV → Option AV
 | [] => some (.tup [])
 | [v] => some v
 | v :: u :: l => some (.tup (v :: u :: l))
theorem retF_eq {vs : List AV} {v : AV} (h : retF vs = some v) : retAV vs = v := by
 match vs, h with
 | [], h => simpa [retF, retAV] using h
 | [x], h => simpa [retF, retAV] using h
 | x :: y :: l, h => simpa [retF, retAV] using h
theorem fin0 {fn : Func} {s : St} {vs : List AV} {v r : AV} (ht : TTok P tt) (hr : resF tt s fn.results.toList = some vs) (hv : retF vs = some v) (h : wkP [] [] v r) : FinOK P fn [] r [] s :=
 ⟨vs, [], resF_ok ht hr, rfl, rfl, by rw [retF_eq hv]; exact h, trivial⟩
theorem finB {fn : Func} {s : St} {vs : List AV} {v r : AV} {M M' : Mem} (ρ : Rho) (ht : TTok P tt) (hr : resF tt s fn.results.toList = some vs) (hv : retF vs = some v) (h1 : rhoOK ρ M' = true) (h2 : keepOK ρ M M' = true) (h : wkP [] ρ v r) (hm : wkM ρ s.m M') : FinOK P fn M r M' s :=
 ⟨vs, ρ, resF_ok ht hr, h1, h2, by rw [retF_eq hv]; exact h, hm⟩
end
end Go.Ab
