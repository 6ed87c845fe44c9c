/- wharflaw21.block: a block that begins with some bytes. -/
import Derived.Test.YthpkmcohcjpmhaaSlbC
set_option linter.unusedVariables false
set_option linter.unusedSimpArgs false
namespace Go.Proofs.Ythpkmcohcjpmhaa.Slb
open Go.RowKit U
def pad (l : List UInt8) (k : Nat) : List UInt8 := l.take k ++ List.replicate (64 - k) 0
def blk (l : List UInt8) : List UInt8 := pad l (min l.length 64)
theorem blk_len (l : List UInt8) : (blk l).length = 64 := by unfold blk pad; simp; omega
theorem pad_len (l : List UInt8) (k : Nat) (h : k ≤ l.length) (h2 : k ≤ 64) : (pad l k).length = 64 := by unfold pad; simp; omega
theorem pad_next (l : List UInt8) (k : Nat) (h : k < l.length) (h2 : k < 64) : pad l (k + 1) = (pad l k).set k l[k] := by
  unfold pad
  rw [List.set_append_right _ _ (by simp; omega), List.length_take, Nat.min_eq_left (by omega), Nat.sub_self, show 64 - k = (64 - (k + 1)) + 1 by omega, List.replicate_succ, List.set_cons_zero,
    List.take_succ_eq_append_getElem h, List.append_assoc]; rfl
theorem infoU8 : (Try.prog.info? 5).map (fun i => (i.zero.map Value.cells, i.size, i.bytes)) = some (some #[.int .u8 0], 1, 1) := by kernel_rfl
theorem block_any (s : ByteArray) (hs : s.size ≤ 9223372036854775807) (w : World) :
    Calls Try.prog 24 #[.string s] w fun e w' => e = .returned (.string ⟨(blk s.data.toList).toArray⟩) ∧ Below w.heap.size w w' := by
  have hmk : (Instr.makeSlice 55 (.int .i64 64) (.int .i64 64)).run Try.prog w = .ok (.slice (some ⟨w.heap.size, 0, none⟩) 64 64) (w.alloc (.cells (List.replicate 64 (.int .u8 0)).toArray 5)) := by
    have hi := infoU8
    rw [Option.map_eq_some_iff] at hi
    obtain ⟨i, hi1, hi2⟩ := hi
    obtain ⟨hz, hsz⟩ := Prod.mk.inj hi2
    obtain ⟨hsz, hbt⟩ := Prod.mk.inj hsz
    rw [Option.map_eq_some_iff] at hz
    obtain ⟨z, hz1, hz2⟩ := hz
    have := run_makeSlice (P := Try.prog) (w := w) 55 5 i z Try.underlying55 hi1 hz1 .i64 .i64 64 64 (by omega) (by omega) (by rw [hsz]; omega) (by rw [hbt]; omega) (by omega)
    rw [hz2, hsz, show (64 : Int).toNat * 1 = 64 from rfl, show (#[Value.int .u8 0] : Array Value) = (List.replicate 1 (Value.int .u8 0)).toArray from rfl, zerosG 1 64 (by decide)] at this
    exact this
  have hb0 : BytesAt w.heap.size (pad s.data.toList 0) (w.alloc (.cells (List.replicate 64 (.int .u8 0)).toArray 5)) := by
    intro j hj
    have h64 : j < 64 := by rw [pad_len _ 0 (by omega) (by omega)] at hj; exact hj
    refine ⟨?_, (At.new w _ _).free j⟩
    refine (At.new w _ _).cell j _ ?_
    have hp : pad s.data.toList 0 = List.replicate 64 0 := by unfold pad; rw [List.take_zero, List.nil_append]
    rw [List.getElem?_toArray, List.getElem?_replicate, if_pos h64]
    simp only [hp, List.getElem_replicate]
    rfl
  obtain ⟨F, hF⟩ : ∃ F, F = (List.replicate 64 (Value.int .u8 0)).toArray := ⟨_, rfl⟩
  rw [← hF] at hmk hb0
  clear hF
  have H0 := Lib.hid hb0
  clear hb0
  have hbel := Lib.hid (Below.alloc (Below.refl w.heap.size w) (Nat.le_refl _) (.cells F 5))
  go_enter Try.func24, Try.ntmps24
  go_wp2
  clear hmk
  go_loopw [4] (fun i wr => ∃ k : Nat, k ≤ s.size ∧ k ≤ 64 ∧ i = .int .i64 k ∧ Hid (BytesAt w.heap.size (pad s.data.toList k) wr) ∧ Below w.heap.size w wr) (fun i _ => s.size - (intOf i).toNat)
  case atStart => exact ⟨0, by omega, by omega, rfl, H0, hbel.out⟩
  case round =>
    obtain ⟨k, hk, hk2, rfl, HB, hbw⟩ := hrel
    have hl : (pad s.data.toList k).length = 64 := pad_len _ k (by rw [U.len_data]; exact hk) hk2
    by_cases hlt : k < s.size
    · by_cases hlt2 : k < 64
      · obtain ⟨hc, hf⟩ := HB.out k (by omega)
        have HN := Lib.hid (pad_next s.data.toList k (by rw [U.len_data]; exact hlt) hlt2)
        obtain ⟨V, hV⟩ : ∃ V, V = Value.int .u8 (((pad s.data.toList k)[k]'(by omega)).toNat : Int) := ⟨_, rfl⟩
        rw [← hV] at hc
        clear hV hl
        go_wp2
        go_roundw
        case rel => exact ⟨k + 1, by omega, by omega, by go_num, Lib.hid (by rw [HN.out]; exact HB.out.set k _ _ rfl), hbw.setCell (p := ⟨w.heap.size, k, none⟩) (Nat.le_refl _) _⟩
        case measure => simp [intOf]; omega
      · have hkk : k = 64 := by omega
        have hcv := HB.out.text (P := Try.prog) 55 9 5 64 Try.underlying55 Try.underlying5 Try.underlying9
        rw [hl] at hcv
        have hb : pad s.data.toList k = blk s.data.toList := by unfold blk; rw [Nat.min_eq_right (by rw [U.len_data]; omega), hkk]
        rw [hb] at hcv
        clear hb hl HB
        subst hkk
        go_wp2
        go_ret
        exact ⟨rfl, hbw⟩
    · have hkk : k = s.size := by omega
      have hcv := HB.out.text (P := Try.prog) 55 9 5 64 Try.underlying55 Try.underlying5 Try.underlying9
      rw [hl] at hcv
      have hb : pad s.data.toList k = blk s.data.toList := by unfold blk; rw [Nat.min_eq_left (by rw [U.len_data]; omega), U.len_data, hkk]
      rw [hb] at hcv
      clear hb hl HB
      go_wp2
      go_ret
      exact ⟨rfl, hbw⟩
end Go.Proofs.Ythpkmcohcjpmhaa.Slb
