/- Contracts of functions of this translation, and what they come to; what is not used is left out. -/
import Derived.Deep.Slices
import Derived.Deep.Fields
import Derived.ChangeSame
import Derived.Carry
import Derived.OpenShut
import Derived.ChangeOld
import Derived.Below
import Derived.SizedLaws
import Derived.Lib.SmallJoins
import Derived.Test.YtofdiilfedjhkaaDoorKg6
import Derived.Test.YtofdiilfedjhkaaDoorKBox
import Derived.Test.YtofdiilfedjhkaaDoorKCls
import Derived.Test.YtofdiilfedjhkaaDoorKUtil
import Derived.Test.YtofdiilfedjhkaaDoorKg5

section
/- api.Note as an argument: opened; a row of numbers as an argument. (Printed by gen_note.py.) -/
set_option linter.unusedVariables false
set_option linter.unusedSimpArgs false
set_option maxRecDepth 100000
namespace Go.Proofs.YtofdiilfedjhkaaDoor.Ses
open Go.RowKit U Go.ChangeShapes Go.WideShapes Go.Deep Go.ChangeAt
theorem addB (x : Addr) (j : Nat) : (x.add j).block = x.block := by unfold Addr.add; split <;> rfl
theorem add_pos (x : Addr) (j : Nat) (h : j ≠ 0) : x.add j = ⟨x.block, x.off + j, none⟩ := by unfold Addr.add; rw [if_neg h]
theorem nc_s : Tryd.prog.cellsOf 9 = 1 := by kernel_rfl
theorem nc_b : Tryd.prog.cellsOf 4 = 1 := by kernel_rfl
theorem nc_i : Tryd.prog.cellsOf 3 = 1 := by kernel_rfl
theorem nc_l : Tryd.prog.cellsOf 2 = 1 := by kernel_rfl
theorem nc_I : Tryd.prog.cellsOf 32 = 1 := by kernel_rfl
theorem nc_C : Tryd.prog.cellsOf 33 = 1 := by kernel_rfl
theorem nc_item : Tryd.prog.cellsOf 52 = 6 := by kernel_rfl
theorem nc_note : Tryd.prog.cellsOf 35 = 11 := by kernel_rfl
/-- The texts of an item. -/
structure ItemAt (w : World) (ad : Addr) (i : Nat) (nm al : ByteArray) : Prop where
  lt : ad.block < w.heap.size
  c0 : w.cell? (ad.add (i * 6)) = some (.string nm)
  c4 : w.cell? ⟨(ad.add (i * 6)).block, (ad.add (i * 6)).off + 4, none⟩ = some (.string al)
abbrev RB : Nat := 140737488355328
def Items (w : World) (A : Option Addr) (n : Nat) : Prop := ∀ i, i < n → ∃ ad a b, A = some ad ∧ ItemAt w ad i a b ∧ a.size ≤ RB ∧ b.size ≤ RB
def Ints (w : World) (A : Option Addr) (n : Nat) : Prop := ∀ i, i < n → ∃ ad z, A = some ad ∧ ad.block < w.heap.size ∧ w.cell? (ad.add i) = some (.int .i64 z)
section
variable {H : Type} {enc : TypeId × Value → H} {w : World} {base : Nat} {spare : Nat → Bool} {held : Bool}
theorem one_int {n : Nat} {ad : Addr} {i : Nat} {cs : List Value} {x : DataW H × List MemPlace} (hc : w.cells? base (ad.add (i * 1)) 1 = some cs) (h : DataW.trod enc Tryd.prog w base spare held n 3 cs = some x) :
    ∃ z, ad.block < w.heap.size ∧ w.cell? (ad.add (i * 1)) = some (.int .i64 z) := by
  obtain ⟨_, hcl, hat⟩ := World.cells?_some hc
  match cs, hcl with
  | [c0], _ =>
    obtain ⟨z, e0, _, _⟩ := DataW.trod_int Tryd.underlying3 h
    injection e0 with e0 _
    subst e0
    have a0 := hat 0 (by decide)
    rw [show (ad.add (i * 1)).add 0 = ad.add (i * 1) from by unfold Addr.add; simp] at a0
    refine ⟨z, ?_, a0⟩
    have := World.block_lt_of_cell? w _ a0
    rw [addB] at this; exact this
theorem all_mem {P : Program} {e : TypeId} {y : Nat} {d : DataW H} : ∀ (l : List (DataW H)), d ∈ l → y ∈ d.weights P e → y ∈ DataW.weightsAll P e l
  | [], h, _ => absurd h List.not_mem_nil
  | a :: r, h, hy => by
    rw [DataW.weightsAll]
    rcases List.mem_cons.1 h with rfl | h
    · exact List.mem_append.2 (.inl hy)
    · exact List.mem_append.2 (.inr (all_mem r h hy))
theorem slice_ints {fuel : Nat} {c : Value} {x : DataW H × List MemPlace} (hf : DataW.trod enc Tryd.prog w base spare held fuel 33 [c] = some x) (hz : ∀ y ∈ x.1.weights Tryd.prog 33, y ≤ RB) :
    ∃ (A : Option Addr) (len cap : Nat), c = .slice A len cap ∧ Ints w A len ∧ len ≤ RB := by
  rcases open_slice Tryd.underlying33 hf with ⟨hcs, _⟩ | ⟨a', len', cap', m, n, D, Pl, hcs, _, hl, hm, hmm, hx, hi⟩
  · injection hcs with hcs _
    exact ⟨none, 0, 0, hcs, fun i hi => absurd hi (by omega), by omega⟩
  · injection hcs with hcs _
    have hlm : len' ≤ m := by rw [hmm]; split <;> omega
    have hb8 : Tryd.prog.bytesOf 3 = 8 := by kernel_rfl
    have h8 := hz _ (by rw [hx]; simp only [DataW.weights, Tryd.underlying33]; exact List.mem_cons_self)
    rw [hb8, List.length_map, List.length_range, List.length_map, List.length_range] at h8
    refine ⟨some a', len', cap', hcs, fun i hil => ?_, by omega⟩
    obtain ⟨cs', hc, ht⟩ := hi i (by omega)
    rw [nc_i] at hc
    obtain ⟨z, h1, h2⟩ := one_int hc ht
    exact ⟨a', z, rfl, h1, by rw [Nat.mul_one] at h2; exact h2⟩
end
end Go.Proofs.YtofdiilfedjhkaaDoor.Ses
end

section
/- wharfref14.Weight: just which number. -/
set_option linter.unusedVariables false
set_option linter.unusedSimpArgs false
set_option maxRecDepth 100000
namespace Go.Proofs.YtofdiilfedjhkaaDoor.Ses
open Go.RowKit U
def ItemsAre (w : World) (A : Option Addr) (n : Nat) (it : Nat → ByteArray × ByteArray) : Prop := ∀ i, i < n → ∃ ad, A = some ad ∧ ItemAt w ad i (it i).1 (it i).2 ∧ (it i).1.size ≤ RB ∧ (it i).2.size ≤ RB
theorem Items.are {w : World} {A : Option Addr} {n : Nat} (h : Items w A n) : ∃ it, ItemsAre w A n it := by
  have : ∀ i, ∃ p : ByteArray × ByteArray, i < n → ∃ ad, A = some ad ∧ ItemAt w ad i p.1 p.2 ∧ p.1.size ≤ RB ∧ p.2.size ≤ RB := fun i => by
    by_cases hi : i < n
    · obtain ⟨ad, a, b, x⟩ := h i hi
      exact ⟨(a, b), fun _ => ⟨ad, x⟩⟩
    · exact ⟨default, fun h => (hi h).elim⟩
  exact ⟨fun i => (this i).choose, fun i hi => (this i).choose_spec hi⟩
end Go.Proofs.YtofdiilfedjhkaaDoor.Ses
end

section
/- A note's item with all its cells; an act (a note within) as an argument: opened. (Printed by gen_sesx.py.) -/
set_option linter.unusedVariables false
set_option linter.unusedSimpArgs false
set_option maxRecDepth 100000
namespace Go.Proofs.YtofdiilfedjhkaaDoor.Ses
open Go.RowKit U Go.ChangeShapes Go.WideShapes Go.Deep Go.ChangeAt
structure Item6 (w : World) (ad : Addr) (i : Nat) (c0 : ByteArray) (c1 : Int) (c2 : Int) (c3 : Int) (c4 : ByteArray) (c5 : Bool) : Prop where
  lt : ad.block < w.heap.size
  c0_ : w.cell? (ad.add (i * 6)) = some (.string c0)
  c1_ : w.cell? ⟨(ad.add (i * 6)).block, (ad.add (i * 6)).off + 1, none⟩ = some (.int .i64 c1)
  c2_ : w.cell? ⟨(ad.add (i * 6)).block, (ad.add (i * 6)).off + 2, none⟩ = some (.int .i64 c2)
  c3_ : w.cell? ⟨(ad.add (i * 6)).block, (ad.add (i * 6)).off + 3, none⟩ = some (.int .i64 c3)
  c4_ : w.cell? ⟨(ad.add (i * 6)).block, (ad.add (i * 6)).off + 4, none⟩ = some (.string c4)
  c5_ : w.cell? ⟨(ad.add (i * 6)).block, (ad.add (i * 6)).off + 5, none⟩ = some (.bool c5)
def Items6 (w : World) (A : Option Addr) (n : Nat) : Prop := ∀ i, i < n → ∃ (ad : Addr) (c0 : ByteArray) (c1 : Int) (c2 : Int) (c3 : Int) (c4 : ByteArray) (c5 : Bool), A = some ad ∧ Item6 w ad i c0 c1 c2 c3 c4 c5 ∧ c0.size ≤ RB ∧ c4.size ≤ RB
section
variable {H : Type} {enc : TypeId × Value → H} {w : World} {base : Nat} {spare : Nat → Bool} {held : Bool}
theorem one_item6 {n : Nat} {ad : Addr} {i : Nat} {cs : List Value} {x : DataW H × List MemPlace} (hc : w.cells? base (ad.add (i * 6)) 6 = some cs) (h : DataW.trod enc Tryd.prog w base spare held n 52 cs = some x) :
    ∃ (c0 : ByteArray) (c1 : Int) (c2 : Int) (c3 : Int) (c4 : ByteArray) (c5 : Bool), Item6 w ad i c0 c1 c2 c3 c4 c5 ∧ c0.data.toList.length ∈ x.1.weights Tryd.prog 52 ∧ c4.data.toList.length ∈ x.1.weights Tryd.prog 52 := by
  obtain ⟨ys, n', _, hx, _, hyl, hf⟩ := DataW.trod_struct Tryd.underlying52 h
  obtain ⟨_, hcl, hat⟩ := World.cells?_some hc
  match cs, hcl with
  | [c0, c1, c2, c3, c4, c5], _ =>
    match ys, hyl with
    | [y0, y1, y2, y3, y4, y5], _ =>
      have h0 := hf 0 _ rfl
      have h1 := hf 1 _ rfl
      have h2 := hf 2 _ rfl
      have h3 := hf 3 _ rfl
      have h4 := hf 4 _ rfl
      have h5 := hf 5 _ rfl
      simp only [nc_i, nc_s, nc_b, List.drop_zero, List.drop_succ_cons, List.take_succ_cons, List.take_zero, List.getElem?_cons_zero, List.getElem?_cons_succ] at h0 h1 h2 h3 h4 h5
      obtain ⟨s0, e0, g0, _⟩ := DataW.trod_string Tryd.underlying9 h0
      obtain ⟨s1, e1, _, _⟩ := DataW.trod_int Tryd.underlying3 h1
      obtain ⟨s2, e2, _, _⟩ := DataW.trod_int Tryd.underlying3 h2
      obtain ⟨s3, e3, _, _⟩ := DataW.trod_int Tryd.underlying3 h3
      obtain ⟨s4, e4, g4, _⟩ := DataW.trod_string Tryd.underlying9 h4
      obtain ⟨s5, e5, _⟩ := DataW.trod_bool Tryd.underlying4 h5
      injection e0 with e0 _
      subst e0
      injection e1 with e1 _
      subst e1
      injection e2 with e2 _
      subst e2
      injection e3 with e3 _
      subst e3
      injection e4 with e4 _
      subst e4
      injection e5 with e5 _
      subst e5
      subst g0; subst g4
      have a0 := hat 0 (by decide)
      have a1 := hat 1 (by decide)
      have a2 := hat 2 (by decide)
      have a3 := hat 3 (by decide)
      have a4 := hat 4 (by decide)
      have a5 := hat 5 (by decide)
      rw [show (ad.add (i * 6)).add 0 = ad.add (i * 6) from by unfold Addr.add; simp] at a0
      rw [add_pos _ _ (by decide)] at a1
      rw [add_pos _ _ (by decide)] at a2
      rw [add_pos _ _ (by decide)] at a3
      rw [add_pos _ _ (by decide)] at a4
      rw [add_pos _ _ (by decide)] at a5
      refine ⟨s0, s1, s2, s3, s4, s5, ⟨?_, a0, a1, a2, a3, a4, a5⟩, by rw [hx]; simp [DataW.weights, DataW.weightsEach, Tryd.underlying52], by rw [hx]; simp [DataW.weights, DataW.weightsEach, Tryd.underlying52]⟩
      have := World.block_lt_of_cell? w _ a0
      rw [addB] at this; exact this
theorem slice_items6 {fuel : Nat} {c : Value} {x : DataW H × List MemPlace} (hf : DataW.trod enc Tryd.prog w base spare held fuel 32 [c] = some x) (hz : ∀ y ∈ x.1.weights Tryd.prog 32, y ≤ RB) :
    ∃ (A : Option Addr) (len cap : Nat), c = .slice A len cap ∧ Items6 w A len ∧ len ≤ maxLen := by
  rcases open_slice Tryd.underlying32 hf with ⟨hcs, _⟩ | ⟨a', len', cap', m, n, D, Pl, hcs, _, hl, hm, hmm, hx, hi⟩
  · injection hcs with hcs _
    exact ⟨none, 0, 0, hcs, fun i hi => absurd hi (by omega), by omega⟩
  · injection hcs with hcs _
    have hlm : len' ≤ m := by rw [hmm]; split <;> omega
    refine ⟨some a', len', cap', hcs, fun i hil => ?_, by omega⟩
    obtain ⟨cs', hc, ht⟩ := hi i (by omega)
    rw [nc_item] at hc
    obtain ⟨c0, c1, c2, c3, c4, c5, h, ha, hb⟩ := one_item6 hc ht
    have hw : ∀ y ∈ (D i).weights Tryd.prog 52, y ≤ RB := fun y hy => hz y (by
      rw [hx]
      simp only [DataW.weights, Tryd.underlying32]
      refine List.mem_cons_of_mem _ (List.mem_append.2 (.inl (all_mem _ ?_ hy)))
      exact List.mem_map.2 ⟨i, List.mem_range.2 hil, rfl⟩)
    exact ⟨a', c0, c1, c2, c3, c4, c5, rfl, h, by rw [← U.len_data]; exact hw _ ha, by rw [← U.len_data]; exact hw _ hb⟩
theorem note_cells {fuel : Nat} {c0 c1 c2 c3 c4 c5 c6 c7 c8 c9 c10 : Value} {x : DataW H × List MemPlace} (hf : DataW.trod enc Tryd.prog w base spare held fuel 35 [c0, c1, c2, c3, c4, c5, c6, c7, c8, c9, c10] = some x) (hz : ∀ y ∈ x.1.weights Tryd.prog 35, y ≤ RB) :
    ∃ (nk : Int) (nn nt nd : ByteArray) (nc ns ni nm : Int) (nok : Bool) (ia : Option Addr) (il ic : Nat) (ja : Option Addr) (jl jc : Nat), [c0, c1, c2, c3, c4, c5, c6, c7, c8, c9, c10] = [.int .i64 nk, .string nn, .string nt, .string nd, .int .i64 nc, .int .i64 ns, .int .i64 ni, .int .i64 nm, .bool nok, .slice ia il ic, .slice ja jl jc] ∧
      nn.size ≤ RB ∧ nt.size ≤ RB ∧ nd.size ≤ RB ∧ Items6 w ia il ∧ il ≤ maxLen ∧ Ints w ja jl ∧ jl ≤ RB := by
  obtain ⟨ys, n', _, hx0, _, hyl, hg⟩ := DataW.trod_struct Tryd.underlying35 hf
  have hx := congrArg Prod.fst hx0
  dsimp only at hx
  match ys, hyl with
  | [y0, y1, y2, y3, y4, y5, y6, y7, y8, y9, y10], _ =>
    have h0 := hg 0 _ rfl
    have h1 := hg 1 _ rfl
    have h2 := hg 2 _ rfl
    have h3 := hg 3 _ rfl
    have h4 := hg 4 _ rfl
    have h5 := hg 5 _ rfl
    have h6 := hg 6 _ rfl
    have h7 := hg 7 _ rfl
    have h8 := hg 8 _ rfl
    have h9 := hg 9 _ rfl
    have h10 := hg 10 _ rfl
    simp only [nc_i, nc_s, nc_b, nc_l, nc_I, nc_C, List.drop_zero, List.drop_succ_cons, List.take_succ_cons, List.take_zero, List.getElem?_cons_zero, List.getElem?_cons_succ] at h0 h1 h2 h3 h4 h5 h6 h7 h8 h9 h10
    obtain ⟨x0, e0, _, _⟩ := DataW.trod_int Tryd.underlying3 h0
    obtain ⟨x1, e1, g1, z1⟩ := DataW.trod_string Tryd.underlying9 h1
    obtain ⟨x2, e2, g2, z2⟩ := DataW.trod_string Tryd.underlying9 h2
    obtain ⟨x3, e3, g3, z3⟩ := DataW.trod_string Tryd.underlying9 h3
    obtain ⟨x4, e4, _, _⟩ := DataW.trod_int Tryd.underlying3 h4
    obtain ⟨x5, e5, _, _⟩ := DataW.trod_int Tryd.underlying3 h5
    obtain ⟨x6, e6, _, _⟩ := DataW.trod_int Tryd.underlying2 h6
    obtain ⟨x7, e7, _, _⟩ := DataW.trod_int Tryd.underlying2 h7
    obtain ⟨x8, e8, _⟩ := DataW.trod_bool Tryd.underlying4 h8
    obtain ⟨ia, il, ic, rfl, hI, lI⟩ := slice_items6 h9 (fun y hy => hz y (by rw [hx]; simp only [DataW.weights, Tryd.underlying35, List.map_cons, List.map_nil, DataW.weightsEach]; simp [hy]))
    obtain ⟨ja, jl, jc, rfl, hC, lC⟩ := slice_ints h10 (fun y hy => hz y (by rw [hx]; simp only [DataW.weights, Tryd.underlying35, List.map_cons, List.map_nil, DataW.weightsEach]; simp [hy]))
    injection e0 with e0 _; injection e1 with e1 _; injection e2 with e2 _; injection e3 with e3 _; injection e4 with e4 _; injection e5 with e5 _; injection e6 with e6 _; injection e7 with e7 _; injection e8 with e8 _
    subst e0; subst e1; subst e2; subst e3; subst e4; subst e5; subst e6; subst e7; subst e8
    subst g1; subst g2; subst g3
    have zz : ∀ s ∈ [x1, x2, x3], s.size ≤ RB := fun s hs => by
      rw [← U.len_data]
      refine hz _ ?_
      rw [hx]
      simp only [DataW.weights, Tryd.underlying35, List.map_cons, List.map_nil, DataW.weightsEach]
      simp only [List.mem_cons, List.not_mem_nil, or_false] at hs
      rcases hs with rfl | rfl | rfl <;> simp
    exact ⟨x0, x1, x2, x3, x4, x5, x6, x7, x8, ia, il, ic, ja, jl, jc, rfl, zz _ (by simp), zz _ (by simp), zz _ (by simp), hI, lI, hC, lC⟩
end
end Go.Proofs.YtofdiilfedjhkaaDoor.Ses
end
