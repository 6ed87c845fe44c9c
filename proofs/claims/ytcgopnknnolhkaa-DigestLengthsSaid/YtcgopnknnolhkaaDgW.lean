/- digest: words. -/
import Derived.Test.YtcgopnknnolhkaaDgA
set_option linter.unusedVariables false
set_option linter.unusedSimpArgs false
namespace Go.Proofs.Ytcgopnknnolhkaa.Dg
open Go.RowKit U
theorem z24 (a : UInt8) : (a.toNat : Int) * (16777216 : Int) = u (a.toUInt32 <<< 24) := by
  have := a.toNat_lt
  have h := shlE a.toUInt32 24 (by decide)
  rw [show (UInt32.ofNat 24) = 24 from rfl] at h
  rw [← h]; unfold u; rw [UInt8.toNat_toUInt32]; omega
theorem z16 (a : UInt8) : (a.toNat : Int) * (65536 : Int) = u (a.toUInt32 <<< 16) := by
  have := a.toNat_lt
  have h := shlE a.toUInt32 16 (by decide)
  rw [show (UInt32.ofNat 16) = 16 from rfl] at h
  rw [← h]; unfold u; rw [UInt8.toNat_toUInt32]; omega
theorem z8 (a : UInt8) : (a.toNat : Int) * (256 : Int) = u (a.toUInt32 <<< 8) := by
  have := a.toNat_lt
  have h := shlE a.toUInt32 8 (by decide)
  rw [show (UInt32.ofNat 8) = 8 from rfl] at h
  rw [← h]; unfold u; rw [UInt8.toNat_toUInt32]; omega
theorem z0 (a : UInt8) : (a.toNat : Int) = u a.toUInt32 := by unfold u; rw [UInt8.toNat_toUInt32]
theorem beE (a b c d : UInt8) : bits .or .u32 (bits .or .u32 (bits .or .u32 ((a.toNat : Int) * 16777216) ((b.toNat : Int) * 65536)) ((c.toNat : Int) * 256)) (d.toNat : Int) = u (wBE a b c d) := by
  rw [z24, z16, z8, z0 d, bo, bo, bo]; rfl
theorem or_comm4 (a b c d : UInt32) : a ||| b ||| c ||| d = d ||| c ||| b ||| a := by
  rw [UInt32.or_comm (a ||| b ||| c) d, UInt32.or_comm (a ||| b) c, UInt32.or_comm a b, ← UInt32.or_assoc, ← UInt32.or_assoc]
theorem leE (a b c d : UInt8) : bits .or .u32 (bits .or .u32 (bits .or .u32 (a.toNat : Int) ((b.toNat : Int) * 256)) ((c.toNat : Int) * 65536)) ((d.toNat : Int) * 16777216) = u (wLE a b c d) := by
  rw [z24, z16, z8, z0 a, bo, bo, bo]
  unfold wLE wBE
  rw [or_comm4]
/-- Four bytes lie at a place. -/
structure Four (g o : Nat) (a b c d : UInt8) (w : World) : Prop where
  c0 : w.cell? ⟨g, o, none⟩ = some (.int .u8 (a.toNat : Int))
  c1 : w.cell? ⟨g, o + 1, none⟩ = some (.int .u8 (b.toNat : Int))
  c2 : w.cell? ⟨g, o + 2, none⟩ = some (.int .u8 (c.toNat : Int))
  c3 : w.cell? ⟨g, o + 3, none⟩ = some (.int .u8 (d.toNat : Int))
theorem word_any (least : Bool) {g o L C : Nat} {a b c d : UInt8} {w : World} (h : Four g o a b c d w) (hL : 4 ≤ L) (hL2 : L ≤ 9223372036854775807) :
    Calls Try.prog 28 #[.slice (some ⟨g, o, none⟩) L C, .bool least] w fun e w' => e = .returned (.int .u32 (u (if least then wLE a b c d else wBE a b c d))) ∧ ∃ n, w' = w.drewN n := by
  obtain ⟨c0, c1, c2, c3⟩ := h
  have ha := a.toNat_lt
  have hb := b.toNat_lt
  have hc := c.toNat_lt
  have hd := d.toNat_lt
  have HE := Lib.hid (beE a b c d)
  obtain ⟨E, hE⟩ : ∃ E, E = bits .or .u32 (bits .or .u32 (bits .or .u32 ((a.toNat : Int) * 16777216) ((b.toNat : Int) * 65536)) ((c.toNat : Int) * 256)) (d.toNat : Int) := ⟨_, rfl⟩
  rw [← hE] at HE
  have HR := Lib.hid (rev_wBE a b c d)
  have hE' := hE.symm
  clear hE
  have l1 : (1 : Int) < (L : Int) := by omega
  have l2 : (2 : Int) < (L : Int) := by omega
  have l3 : (3 : Int) < (L : Int) := by omega
  have l0 : (0 : Int) < (L : Int) := by omega
  go_enter Try.func28, Try.ntmps28
  go_wp2
  go_quiet (fail)
  have e2 := HE.out
  subst e2
  cases least with
  | true =>
    go_wp2_with fail
    refine (rev_any _ _).mono ?_
    rintro e w1 ⟨rfl, rfl⟩
    go_wp2
    go_ret
    refine ⟨?_, _, rfl⟩
    show Ending.returned (.int .u32 (u (rev (wBE a b c d)))) = _
    rw [HR.out]; rfl
  | false =>
    go_wp2
    go_ret
    exact ⟨rfl, _, rfl⟩
theorem rword_any (least : Bool) {g o L C : Nat} {a b c d : UInt8} {w : World} (h : Four g o a b c d w) (hL : 4 ≤ L) (hL2 : L ≤ 9223372036854775807) :
    Calls Try.prog 21 #[.slice (some ⟨g, o, none⟩) L C, .bool least] w fun e w' => e = .returned (.int .u32 (u (if least then wLE a b c d else wBE a b c d))) ∧ ∃ n, w' = w.drewN n := by
  obtain ⟨c0, c1, c2, c3⟩ := h
  have ha := a.toNat_lt
  have hb := b.toNat_lt
  have hc := c.toNat_lt
  have hd := d.toNat_lt
  have l1 : (1 : Int) < (L : Int) := by omega
  have l2 : (2 : Int) < (L : Int) := by omega
  have l3 : (3 : Int) < (L : Int) := by omega
  have l0 : (0 : Int) < (L : Int) := by omega
  cases least with
  | true =>
    have HE := Lib.hid (leE a b c d)
    go_enter Try.func21, Try.ntmps21
    go_wp2
    go_quiet (fail)
    go_wp2
    go_ret
    exact ⟨ret_int HE.out, _, rfl⟩
  | false =>
    have HE := Lib.hid (leE d c b a)
    go_enter Try.func21, Try.ntmps21
    go_wp2
    go_quiet (fail)
    go_wp2
    go_ret
    exact ⟨ret_int HE.out, _, rfl⟩
end Go.Proofs.Ytcgopnknnolhkaa.Dg
