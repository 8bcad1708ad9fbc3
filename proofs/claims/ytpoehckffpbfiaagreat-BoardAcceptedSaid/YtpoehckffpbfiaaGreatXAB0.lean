/- B0: what functions of the program compute (written by mod.py). -/
import Derived.Test.YtpoehckffpbfiaaGreatXAA1f
import Derived.KernelRfl
import Derived.Test.YtpoehckffpbfiaaGreatXAAb34
namespace Go.Proofs.YtpoehckffpbfiaaGreat
open Go Go.Ab
set_option linter.unusedSimpArgs false
set_option linter.unusedVariables false
set_option linter.unusedSectionVars false
set_option maxRecDepth 20000
set_option maxHeartbeats 1000000
open Go.RowKit Go.Shelf
attribute [local go_sem] Oper.semAt_some
set_option maxRecDepth 100000 in
set_option maxHeartbeats 4000000 in
theorem chunk1_in (n : Nat) (l B1 B2 b off N cap : Nat) (hreach : 7 * N * 8 ≤ 140737488351232) (hcap : 7 * N ≤ cap) (J : Nat → World → Prop)
  (hdrew : ∀ k (W : World), J k W → J k W.drew)
  (hc1 : ∀ k W, J k W → W.cell? ⟨B1, 0, none⟩ = some (.slice (some ⟨b, off, none⟩) (7 * N) cap)) (hc2 : ∀ k W, J k W → W.cell? ⟨B2, 0, none⟩ = some (.int .i64 7))
  (hY : ∀ k W, J k W → k < N → YieldAt Fence.wide (n - 1) Tryz.prog l #[.slice (some ⟨b, off + 7 * k, none⟩) 7 7] W fun e W' => e = .returned (.bool true) ∧ J (k + 1) W')
  (W : World) (h0 : J 0 W) :
  CallsIn Fence.wide n Tryz.prog 115 #[.func (.yield l) #[] #[], .pointer (some ⟨B1, 0, none⟩), .pointer (some ⟨B2, 0, none⟩)] W fun e W' => (∃ v, e = .returned v) ∧ J N W' := by
 refine callsIn_of_wp Tryz.func115 rfl trivial ?_ rfl
 simp only [Tryz.ntmps115, List.size_toArray, List.length_cons, List.length_nil, Nat.reduceAdd, Nat.reduceSub, Array.replicate_succ, Array.replicate_zero, List.push_toArray, List.append_toArray, List.nil_append, List.cons_append]
 gi_wp2
 gi_loopw [4] (fun i wr => ∃ k : Nat, k ≤ N ∧ i = .int .i64 (7 * k) ∧ J k wr)
  (fun i _ => 7 * N - (intOf i).toNat)
 case atStart => exact ⟨0, Nat.zero_le _, rfl, h0⟩
 case round =>
  obtain ⟨k, hk, rfl, hJs⟩ := hrel
  have e1 := hc1 _ _ hJs
  have e2 := hc2 _ _ hJs
  by_cases hlt : k < N
  ·gi_wp2
   have e1' : ({ wr with drawn := wr.drawn + 1 } : World).cell? ⟨B1, 0, none⟩ = some (.slice (some ⟨b, off, none⟩) (7 * N) cap) := e1
   have e2' : ({ wr with drawn := wr.drawn + 1 } : World).cell? ⟨B2, 0, none⟩ = some (.int .i64 7) := e2
   refine wpIn_wide.2 ?_
   refine wp_region_still_lit (by kernel_rfl) (by kernel_rfl) ?_
   still_step
   still_step
   still_step
   have hk0 : (0 : Int) ≤ 7 * (k : Int) := by omega
   have htn : (7 * (k : Int)).toNat = 7 * k := by omega
   have hne : ¬ cap = 7 * k := by omega
   refine wpStill_step (fun K hK => ?_)
   go_simp
   try simp only [hk0, htn, hne, if_true, if_false]
   first | refine ⟨rfl, hK _ ?_⟩ | refine hK _ ?_
   clear hK K
   still_step
   have hmin : ¬ (((7 * N - 7 * k : Nat) : Int) < 7) := by omega
   still_step
   try rw [if_neg hmin]
   still_step
   refine wpStill_nil ?_
   obtain ⟨fn, tmps, assign, body, hy, hR⟩ := hY k wr.drew (hdrew _ _ hJs) hlt
   gi_wp2
   refine ⟨fun h => by simp [Fence.wide] at h, hR.mono ?_⟩
   rintro e W3 ⟨rfl, hJ3⟩
   have e3 := hc2 _ _ hJ3
   gi_wp2
   go_roundw
   case rel => exact ⟨k + 1, by omega, by simp; omega, hJ3⟩
   case measure => simp [intOf]; omega
  ·obtain rfl : k = N := by omega
   gi_wp2
   go_end0
   exact ⟨⟨_, rfl⟩, hJs⟩
set_option maxRecDepth 100000 in
set_option maxHeartbeats 4000000 in
theorem chunk0_in (n : Nat) (l B1 B2 cap : Nat) (sa : Option Addr) (J : World → Prop)
  (W : World) (hc1 : W.cell? ⟨B1, 0, none⟩ = some (.slice sa 0 cap)) (h0 : J W) :
  CallsIn Fence.wide n Tryz.prog 115 #[.func (.yield l) #[] #[], .pointer (some ⟨B1, 0, none⟩), .pointer (some ⟨B2, 0, none⟩)] W fun e W' => (∃ v, e = .returned v) ∧ J W' := by
 refine callsIn_of_wp Tryz.func115 rfl trivial ?_ rfl
 simp only [Tryz.ntmps115, List.size_toArray, List.length_cons, List.length_nil, Nat.reduceAdd, Nat.reduceSub, Array.replicate_succ, Array.replicate_zero, List.push_toArray, List.append_toArray, List.nil_append, List.cons_append]
 gi_wp2
 gi_loopw [4] (fun i wr => i = .int .i64 0 ∧ J wr ∧ wr.cell? ⟨B1, 0, none⟩ = some (.slice sa 0 cap)) (fun _ _ => 0)
 case atStart => exact ⟨rfl, h0, hc1⟩
 case round =>
  obtain ⟨rfl, hJs, e1⟩ := hrel
  gi_wp2
  go_end0
  exact ⟨⟨_, rfl⟩, hJs⟩
theorem chunk_itr {B1 B2 b off N cap : Nat} (hreach : 7 * N * 8 ≤ 140737488351232) (hcap : 7 * N ≤ cap) :
  Itr Tryz.prog 115 #[.pointer (some ⟨B1, 0, none⟩), .pointer (some ⟨B2, 0, none⟩)] (fun W => W.cell? ⟨B1, 0, none⟩ = some (.slice (some ⟨b, off, none⟩) (7 * N) cap) ∧ W.cell? ⟨B2, 0, none⟩ = some (.int .i64 7)) (fun k => #[.slice (some ⟨b, off + 7 * k, none⟩) 7 7]) N :=
 fun n l J W hd hC hY h0 => chunk1_in n l B1 B2 b off N cap hreach hcap J hd (fun k W h => (hC k W h).1) (fun k W h => (hC k W h).2) hY W h0
theorem chunk_itr0 {B1 B2 cap : Nat} {sa : Option Addr} {encs : Nat → Array Value} :
  Itr Tryz.prog 115 #[.pointer (some ⟨B1, 0, none⟩), .pointer (some ⟨B2, 0, none⟩)] (fun W => W.cell? ⟨B1, 0, none⟩ = some (.slice sa 0 cap)) encs 0 :=
 fun n l J W hd hC hY h0 => chunk0_in n l B1 B2 cap sa (J 0) W (hC 0 W h0) h0
theorem chunk_w (s : List Int) (n : Int) (hn : decide (n < 1) = false) : Holds Tryz.prog 65 [encL I s, I n] [] (.clo 115 [] [.ref 999 0 0, .ref 998 0 0]) [(999, some ⟨59, 1, [encL I s]⟩), (998, some ⟨3, 1, [I n]⟩)] := by
 refine holds_fn Tryz.func65 rfl Tryz.ntmps65 rfl rfl rfl (fun lim => ?_)
 refine awp_seq (awp_go hmix (go_run' ttok 3 rfl (go_nil nd (then_norm (awp_seq (awp_seq (awp_go hmix (go_run' ttok 2 rfl (go_nil nd (then_norm ?_))))))))))
 refine awp_cond (b := decide (n < 1)) rfl (fun c => by rw [hn] at c; cases c) (fun c1 => ?_)
 refine awp_skip (then_norm (awp_seq (awp_go hmix (go_run' ttok 2 rfl (go_nil nd (then_norm (awp_ret ?_)))))))
 refine ret_ret ?_
 exact finB [(999, some 2), (998, some 3)] ttok rfl rfl rfl rfl ⟨rfl, trivial, ⟨⟨rfl, rfl, rfl⟩, ⟨rfl, rfl, rfl⟩, trivial⟩⟩ ⟨⟨_, rfl, rfl, rfl, .inl ⟨rfl, nr_one rfl⟩⟩, ⟨_, rfl, rfl, rfl, .inl ⟨rfl, nr_one rfl⟩⟩, trivial⟩
end Go.Proofs.YtpoehckffpbfiaaGreat
