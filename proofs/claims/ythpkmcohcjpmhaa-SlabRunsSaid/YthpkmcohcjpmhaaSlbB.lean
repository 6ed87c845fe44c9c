/- slab at this translation: New, Arm, Read. -/
import Derived.Test.YthpkmcohcjpmhaaSlbA
import Derived.Laws.MakeOwn
set_option linter.unusedVariables false
set_option linter.unusedSimpArgs false
namespace Go.Proofs.Ythpkmcohcjpmhaa.Slb
open Go.RowKit U
variable {gS gB : Nat} {s : S} {w : World}
theorem New_bad (n : Int) (h : n < 0 ∨ 4096 < n) (w : World) : Calls Try.prog 9 #[.int .i64 n] w fun e w' => e = .returned (.tuple #[.pointer none, .int .i64 2]) ∧ w = w' := by
  by_cases h1 : n < 0
  · clear h
    go_enter Try.func9, Try.ntmps9
    go_wp2
    go_ret2
    exact ⟨rfl, rfl⟩
  · have h2 : 4096 < n := by omega
    clear h
    go_enter Try.func9, Try.ntmps9
    go_wp2
    go_ret2
    exact ⟨rfl, rfl⟩
def clamp (k : Int) : Int := min (max k 0) 64
theorem Arm_any (h : Is gS gB s w) (a k : Int) : Calls Try.prog 15 #[P gS, .int .i64 a, .int .i64 k] w fun e w' => e = .returned (.tuple #[]) ∧ Is gS gB { s with after := max a (-1), keep := clamp k } w' ∧ w' = (w.setCell ⟨gS, 1, none⟩ (.int .i64 (max a (-1)))).setCell ⟨gS, 2, none⟩ (.int .i64 (clamp k)) := by
  have c1 := h.c1
  have c2 := h.c2
  have f1 := h.fz 1
  have f2 := h.fz 2
  have H := Lib.hid h
  clear h
  have key : ∀ A K : Int, Is gS gB { s with after := A, keep := K } ((w.setCell ⟨gS, 1, none⟩ (.int .i64 A)).setCell ⟨gS, 2, none⟩ (.int .i64 K)) := fun A K =>
    ⟨(H.out.hs.set 1 _).set 2 _, (H.out.hb.other ⟨gS, 1, none⟩ _ H.out.ne.symm).other ⟨gS, 2, none⟩ _ H.out.ne.symm, H.out.ne, H.out.len, H.out.few⟩
  have HK := Lib.hid key
  clear key
  obtain ⟨A, hA⟩ : ∃ A, A = max a (-1) := ⟨_, rfl⟩
  obtain ⟨K, hK⟩ : ∃ K, K = clamp k := ⟨_, rfl⟩
  rw [← hA, ← hK]
  have HA := Lib.hid hA
  have HC := Lib.hid (show K = min (max k 0) 64 from hK)
  clear hA hK
  go_enter Try.func15, Try.ntmps15
  go_wp2
  all_goals
    first
      | (have e1 : A = -1 := by (have := HA.out; omega)
         subst e1)
      | (have e1 : A = a := by (have := HA.out; omega)
         subst e1)
    first
      | (have e2 : K = 0 := by (have := HC.out; omega)
         subst e2)
      | (have e2 : K = 64 := by (have := HC.out; omega)
         subst e2)
      | (have e2 : K = k := by (have := HC.out; omega)
         subst e2)
    go_end0
    exact ⟨rfl, HK.out _ _, rfl⟩
theorem infoB : (Try.prog.info? 58).map (fun i => (i.zero.map Value.cells, i.size, i.bytes)) = some (some (List.replicate 64 (.int .u8 0)).toArray, 64, 64) := by kernel_rfl
theorem flat_size (bs : List (List UInt8)) (h : ∀ b ∈ bs, b.length = 64) : (flat bs).size = bs.length * 64 := by
  unfold flat
  rw [List.size_toArray, List.length_map]
  induction bs with
  | nil => rfl
  | cons b bs ih =>
    rw [List.flatten_cons, List.length_append, ih (fun x hx => h x (List.mem_cons_of_mem _ hx)), h b List.mem_cons_self, List.length_cons]; omega
theorem zerosG (k n : Nat) (hk : 0 < k) (v : Value) : madeCells (List.replicate k v).toArray n = (List.replicate n v).toArray := by
  apply Array.ext
  · rw [size_madeCells]; simp
  · intro i h1 h2
    have hm : i % k < k := Nat.mod_lt _ hk
    simp only [madeCells, Array.getElem_map, Array.getElem_range, List.size_toArray, List.length_replicate, List.getElem_toArray, List.getElem_replicate]
    rw [getElem!_pos _ _ (by simpa using hm)]
    simp
theorem zeros (n : Nat) : madeCells (List.replicate 64 (Value.int .u8 0)).toArray (n * 64) = flat (List.replicate n (List.replicate 64 0)) := by
  have h2 : flat (List.replicate n (List.replicate 64 0)) = (List.replicate (n * 64) (Value.int .u8 0)).toArray := by
    unfold flat
    rw [List.flatten_replicate_replicate, List.map_replicate]; rfl
  rw [h2, zerosG 64 _ (by decide)]
def NewPost (n : Nat) (w : World) (e : Ending) (w' : World) : Prop := ∃ gS gB, e = .returned (.tuple #[P gS, .int .i64 0]) ∧ w.heap.size ≤ gB ∧ w.heap.size ≤ gS ∧ Is gS gB ⟨List.replicate n (List.replicate 64 0), -1, 0, false, 0⟩ w' ∧ Below w.heap.size w w'
theorem New_ok (n : Nat) (h : n ≤ 4096) (w : World) : Calls Try.prog 9 #[.int .i64 (n : Int)] w (NewPost n w) := by
  have hmk : (Instr.makeSlice 52 (.int .i64 (n : Int)) (.int .i64 (n : Int))).run Try.prog w = .ok (.slice (some ⟨w.heap.size, 0, none⟩) n n) (w.alloc (.cells (flat (List.replicate n (List.replicate 64 0))) 58)) := by
    have hi := infoB
    rw [Option.map_eq_some_iff] at hi
    obtain ⟨i, hi1, hi2⟩ := hi
    obtain ⟨hz, hsz⟩ := Prod.mk.inj hi2
    obtain ⟨hsz, hbt⟩ := Prod.mk.inj hsz
    rw [Option.map_eq_some_iff] at hz
    obtain ⟨z, hz1, hz2⟩ := hz
    have := run_makeSlice (P := Try.prog) (w := w) 52 58 i z Try.underlying52 hi1 hz1 .i64 .i64 (n : Int) (n : Int) (by omega) (by omega) (by rw [hsz]; omega) (by rw [hbt]; omega) (by omega)
    rw [hz2, hsz, Int.toNat_natCast, zeros] at this
    exact this
  obtain ⟨F, hF⟩ : ∃ F, F = flat (List.replicate n (List.replicate 64 0)) := ⟨_, rfl⟩
  rw [← hF] at hmk
  have HF := Lib.hid hF
  clear hF
  have b1 : ¬ ((n : Int) < 0) := by omega
  have b2 : ¬ ((4096 : Int) < (n : Int)) := by omega
  have K := ((Box.start w).alloc 58 F).alloc 54 #[.slice (some ⟨w.heap.size, 0, none⟩) n n, .int .i64 (-1), .int .i64 0, .bool false, .int .i64 0]
  have HK := Lib.hid K
  clear K
  go_enter Try.func9, Try.ntmps9
  go_wp2
  go_ret2
  unfold NewPost
  refine ⟨w.heap.size + 1, w.heap.size, rfl, Nat.le_refl _, by omega, ⟨?_, ?_, by omega, ?_, ?_⟩, HK.out.low⟩
  · have := HK.out.at 0 _ _ _ rfl
    unfold head_; simp only [List.length_replicate]
    simpa using this
  · have := HK.out.at 1 _ _ _ rfl
    rw [← HF.out]; exact this
  · intro b hb
    rw [List.eq_of_mem_replicate hb, List.length_replicate]
  · simp only [List.length_replicate]; exact h
theorem Read_bad (h : Is gS gB s w) (n : Int) (hn : beg s n ≠ 0) : Calls Try.prog 22 #[P gS, .int .i64 n] w fun e w' => e = .returned (.tuple #[.string ⟨#[]⟩, .int .i64 (beg s n)]) ∧ w = w' := by
  have HB := Lib.hid (begin_any h n)
  obtain ⟨r, hr⟩ : ∃ r, r = beg s n := ⟨_, rfl⟩
  rw [← hr] at HB hn ⊢
  have h0 : (r == 0) = false := by rw [beq_eq_false_iff_ne]; exact hn
  have h1 : (r != 0) = true := by rw [bne_iff_ne]; exact hn
  clear hr h hn
  go_enter Try.func22, Try.ntmps22
  go_wp2_with fail
  refine HB.out.mono ?_
  rintro e w1 ⟨rfl, rfl⟩
  go_wp2
  go_ret2
  exact ⟨rfl, rfl⟩
end Go.Proofs.Ythpkmcohcjpmhaa.Slb
