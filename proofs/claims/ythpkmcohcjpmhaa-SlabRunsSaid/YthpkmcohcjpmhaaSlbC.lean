/- slab at this translation: Read; wharflaw21.block. -/
import Derived.Test.YthpkmcohcjpmhaaSlbB
import Derived.LoopTactic
import Derived.Outline
set_option linter.unusedVariables false
set_option linter.unusedSimpArgs false
namespace Go.Proofs.Ythpkmcohcjpmhaa.Slb
open Go.RowKit U
variable {gS gB : Nat} {s : S} {w : World}
theorem flat_get : ∀ (bs : List (List UInt8)) (h : ∀ b ∈ bs, b.length = 64) (k j : Nat) (hk : k < bs.length) (hj : j < 64), bs.flatten[k * 64 + j]? = (bs[k])[j]?
  | [], _, _, _, hk, _ => by simp at hk
  | b :: bs, h, 0, j, _, hj => by
    have := h b List.mem_cons_self
    rw [List.flatten_cons, List.getElem?_append_left (by omega)]; simp
  | b :: bs, h, k + 1, j, hk, hj => by
    have hb := h b List.mem_cons_self
    rw [List.flatten_cons, List.getElem?_append_right (by omega), show (k + 1) * 64 + j - b.length = k * 64 + j by omega, flat_get bs (fun x hx => h x (List.mem_cons_of_mem _ hx)) k j (by simp at hk; omega) hj]
    simp
theorem Is.byte (h : Is gS gB s w) (k : Nat) (hk : k < s.bs.length) (j : Nat) (hj : j < (s.bs[k]).length) : w.cell? ⟨gB, k * 64 + j, none⟩ = some (.int .u8 (((s.bs[k])[j]).toNat : Int)) := by
  refine h.hb.cell _ _ ?_
  have h64 : (s.bs[k]).length = 64 := h.len _ (List.getElem_mem _)
  unfold flat
  rw [List.getElem?_toArray, List.getElem?_map, flat_get s.bs h.len k j hk (by omega), List.getElem?_eq_getElem hj]; rfl
theorem Is.text (h : Is gS gB s w) (k : Nat) (hk : k < s.bs.length) (cap : Nat) : (convert 55 9 (.slice (some ⟨gB, k * 64, none⟩) 64 cap)).run Try.prog w = .ok (.string ⟨(s.bs[k]).toArray⟩) w := by
  have h64 : (s.bs[k]).length = 64 := h.len _ (List.getElem_mem _)
  have := run_convert_bytes_back (P := Try.prog) w 55 9 5 ⟨gB, k * 64, none⟩ cap (s.bs[k]) Try.underlying55 Try.underlying5 Try.underlying9 (fun j hj => by
    have ha : (⟨gB, k * 64, none⟩ : Addr).add j = ⟨gB, k * 64 + j, none⟩ := by unfold Addr.add; split <;> simp_all
    rw [ha]; exact h.byte k hk j hj)
  rw [h64] at this; exact this
theorem Read_ok (h : Is gS gB s w) (k : Nat) (hk : k < s.bs.length) (hd : s.dead = false) : Calls Try.prog 22 #[P gS, .int .i64 (k : Int)] w fun e w' => e = .returned (.tuple #[.string ⟨(s.bs[k]).toArray⟩, .int .i64 0]) ∧ w = w' := by
  have HB := Lib.hid (begin_any h (k : Int))
  have hcv := h.text k hk
  have c0 := h.c0
  have hl := h.few
  have hr : beg s (k : Int) = 0 := by unfold beg; rw [hd]; simp; omega
  rw [hr] at HB
  obtain ⟨T, hT⟩ : ∃ T, T = s.bs[k] := ⟨_, rfl⟩
  rw [← hT] at hcv ⊢
  obtain ⟨L, hL⟩ : ∃ L : Nat, L = s.bs.length := ⟨_, rfl⟩
  rw [← hL] at c0 hl hk
  clear hr h hT hL hd
  go_enter Try.func22, Try.ntmps22
  go_wp2_with fail
  refine HB.out.mono ?_
  rintro e w1 ⟨rfl, rfl⟩
  go_wp2
  go_ret2
  exact ⟨rfl, rfl⟩
end Go.Proofs.Ythpkmcohcjpmhaa.Slb
