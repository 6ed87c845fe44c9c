/- digest: turns, words. -/
import Derived.Test.YtcgopnknnolhkaaDgA
set_option linter.unusedVariables false
set_option linter.unusedSimpArgs false
namespace Go.Proofs.Ytcgopnknnolhkaa.Dg
open Go.RowKit U
theorem trn_pos (i : Nat) (h : i < 64) : 0 < trn i ∧ trn i < 32 := by
  have : ∀ k, k < 16 → 0 < [7, 12, 17, 22, 5, 9, 14, 20, 4, 11, 16, 23, 6, 10, 15, 21].getD k 0 ∧ [7, 12, 17, 22, 5, 9, 14, 20, 4, 11, 16, 23, 6, 10, 15, 21].getD k 0 < 32 := by decide
  exact this _ (by omega)
theorem ixp0 (w : World) : (Instr.index 67 (.agg #[.int .i64 5, .int .i64 9, .int .i64 14, .int .i64 20]) (.int .i64 0)).run Try.prog w = .ok (.int .i64 5) w := by kernel_rfl
theorem ixp1 (w : World) : (Instr.index 67 (.agg #[.int .i64 5, .int .i64 9, .int .i64 14, .int .i64 20]) (.int .i64 1)).run Try.prog w = .ok (.int .i64 9) w := by kernel_rfl
theorem ixp2 (w : World) : (Instr.index 67 (.agg #[.int .i64 5, .int .i64 9, .int .i64 14, .int .i64 20]) (.int .i64 2)).run Try.prog w = .ok (.int .i64 14) w := by kernel_rfl
theorem ixp3 (w : World) : (Instr.index 67 (.agg #[.int .i64 5, .int .i64 9, .int .i64 14, .int .i64 20]) (.int .i64 3)).run Try.prog w = .ok (.int .i64 20) w := by kernel_rfl
theorem ixq0 (w : World) : (Instr.index 67 (.agg #[.int .i64 4, .int .i64 11, .int .i64 16, .int .i64 23]) (.int .i64 0)).run Try.prog w = .ok (.int .i64 4) w := by kernel_rfl
theorem ixq1 (w : World) : (Instr.index 67 (.agg #[.int .i64 4, .int .i64 11, .int .i64 16, .int .i64 23]) (.int .i64 1)).run Try.prog w = .ok (.int .i64 11) w := by kernel_rfl
theorem ixq2 (w : World) : (Instr.index 67 (.agg #[.int .i64 4, .int .i64 11, .int .i64 16, .int .i64 23]) (.int .i64 2)).run Try.prog w = .ok (.int .i64 16) w := by kernel_rfl
theorem ixq3 (w : World) : (Instr.index 67 (.agg #[.int .i64 4, .int .i64 11, .int .i64 16, .int .i64 23]) (.int .i64 3)).run Try.prog w = .ok (.int .i64 23) w := by kernel_rfl
theorem ixr0 (w : World) : (Instr.index 67 (.agg #[.int .i64 6, .int .i64 10, .int .i64 15, .int .i64 21]) (.int .i64 0)).run Try.prog w = .ok (.int .i64 6) w := by kernel_rfl
theorem ixr1 (w : World) : (Instr.index 67 (.agg #[.int .i64 6, .int .i64 10, .int .i64 15, .int .i64 21]) (.int .i64 1)).run Try.prog w = .ok (.int .i64 10) w := by kernel_rfl
theorem ixr2 (w : World) : (Instr.index 67 (.agg #[.int .i64 6, .int .i64 10, .int .i64 15, .int .i64 21]) (.int .i64 2)).run Try.prog w = .ok (.int .i64 15) w := by kernel_rfl
theorem ixr3 (w : World) : (Instr.index 67 (.agg #[.int .i64 6, .int .i64 10, .int .i64 15, .int .i64 21]) (.int .i64 3)).run Try.prog w = .ok (.int .i64 21) w := by kernel_rfl
set_option maxHeartbeats 4000000 in
theorem turns_any (i : Nat) (w : World) (h : i < 64) : Calls Try.prog 31 #[.int .i64 (i : Int)] w fun e w' => e = .returned (.int .i64 (trn i : Int)) ∧ w = w' := by
  rcases (show i / 16 = 0 ∨ i / 16 = 1 ∨ i / 16 = 2 ∨ i / 16 = 3 by omega) with hq | hq | hq | hq <;> rcases (show i % 4 = 0 ∨ i % 4 = 1 ∨ i % 4 = 2 ∨ i % 4 = 3 by omega) with hr | hr | hr | hr
  all_goals
    have ht : trn i = [7, 12, 17, 22, 5, 9, 14, 20, 4, 11, 16, 23, 6, 10, 15, 21].getD (i / 16 * 4 + i % 4) 0 := rfl
    rw [hq, hr] at ht
    have hq' : (i : Int) / 16 = ((i / 16 : Nat) : Int) := by omega
    have hr' : (i : Int) % 4 = ((i % 4 : Nat) : Int) := by omega
    rw [hq] at hq'
    rw [hr] at hr'
    rw [ht]
    clear hq hr ht
    have ip0 := ixp0
    have ip1 := ixp1
    have ip2 := ixp2
    have ip3 := ixp3
    have iq0 := ixq0
    have iq1 := ixq1
    have iq2 := ixq2
    have iq3 := ixq3
    have ir0 := ixr0
    have ir1 := ixr1
    have ir2 := ixr2
    have ir3 := ixr3
    go_enter Try.func31, Try.ntmps31
    go_wp2
    go_ret
    exact ⟨rfl, rfl⟩
set_option maxHeartbeats 4000000 in
theorem rturns_any (i : Nat) (w : World) (h : i < 64) : Calls Try.prog 23 #[.int .i64 (i : Int)] w fun e w' => e = .returned (.int .i64 (trn i : Int)) ∧ Below w.heap.size w w' := by
  rcases (show i / 16 = 0 ∨ i / 16 = 1 ∨ i / 16 = 2 ∨ i / 16 = 3 by omega) with hq | hq | hq | hq <;> rcases (show i % 4 = 0 ∨ i % 4 = 1 ∨ i % 4 = 2 ∨ i % 4 = 3 by omega) with hr | hr | hr | hr
  all_goals
    have ht : trn i = [7, 12, 17, 22, 5, 9, 14, 20, 4, 11, 16, 23, 6, 10, 15, 21].getD (i / 16 * 4 + i % 4) 0 := rfl
    rw [hq, hr] at ht
    have hq' : (i : Int) / 16 = ((i / 16 : Nat) : Int) := by omega
    have hr' : (i : Int) % 4 = ((i % 4 : Nat) : Int) := by omega
    rw [hq] at hq'
    rw [hr] at hr'
    rw [ht]
    clear hq hr ht
    go_enter Try.func23, Try.ntmps23
    go_wp2
    go_ret
    exact ⟨rfl, (Below.refl _ _).alloc (Nat.le_refl _) _⟩
end Go.Proofs.Ytcgopnknnolhkaa.Dg
