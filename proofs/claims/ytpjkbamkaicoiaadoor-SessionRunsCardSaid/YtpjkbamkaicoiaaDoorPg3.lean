/- Contracts of functions of this translation, and what they come to; what is not used is left out. -/
import Derived.Deep.Slices
import Derived.Deep.Fields
import Derived.ChangeSame
import Derived.Carry
import Derived.OpenShut
import Derived.ChangeOld
import Derived.Below
import Derived.SizedLaws
import Derived.Lib.SmallJoins
import Derived.Test.YtpjkbamkaicoiaaDoorPg4
import Derived.Test.YtpjkbamkaicoiaaDoorPg6
import Derived.Test.YtpjkbamkaicoiaaDoorPBox
import Derived.Test.YtpjkbamkaicoiaaDoorPCls
import Derived.Test.YtpjkbamkaicoiaaDoorPUtil
import Derived.Test.YtpjkbamkaicoiaaDoorPg5

section
/- api.Note as an argument: opened; a row of numbers as an argument. (Printed by gen_note.py.) -/
set_option linter.unusedVariables false
set_option linter.unusedSimpArgs false
set_option maxRecDepth 100000
namespace Go.Proofs.YtpjkbamkaicoiaaDoor.Ses
open Go.RowKit U Go.ChangeShapes Go.WideShapes Go.Deep Go.ChangeAt
theorem addB (x : Addr) (j : Nat) : (x.add j).block = x.block := by unfold Addr.add; split <;> rfl
theorem add_pos (x : Addr) (j : Nat) (h : j ≠ 0) : x.add j = ⟨x.block, x.off + j, none⟩ := by unfold Addr.add; rw [if_neg h]
theorem nc_s : Tryd.prog.cellsOf 9 = 1 := by kernel_rfl
theorem nc_b : Tryd.prog.cellsOf 4 = 1 := by kernel_rfl
theorem nc_i : Tryd.prog.cellsOf 3 = 1 := by kernel_rfl
theorem nc_l : Tryd.prog.cellsOf 2 = 1 := by kernel_rfl
theorem nc_I : Tryd.prog.cellsOf 34 = 1 := by kernel_rfl
theorem nc_C : Tryd.prog.cellsOf 35 = 1 := by kernel_rfl
theorem nc_item : Tryd.prog.cellsOf 68 = 6 := by kernel_rfl
theorem nc_note : Tryd.prog.cellsOf 37 = 11 := by kernel_rfl
/-- The texts of an item. -/
structure ItemAt (w : World) (ad : Addr) (i : Nat) (nm al : ByteArray) : Prop where
  lt : ad.block < w.heap.size
  c0 : w.cell? (ad.add (i * 6)) = some (.string nm)
  c4 : w.cell? ⟨(ad.add (i * 6)).block, (ad.add (i * 6)).off + 4, none⟩ = some (.string al)
theorem ItemAt.below {w w' : World} {ad : Addr} {i : Nat} {a b : ByteArray} (h : ItemAt w ad i a b) (hb : Below w.heap.size w w') : ItemAt w' ad i a b :=
  ⟨Nat.lt_of_lt_of_le h.lt hb.size, (hb.cell (by rw [addB]; exact h.lt)).trans h.c0, (hb.cell (by show (ad.add (i * 6)).block < _; rw [addB]; exact h.lt)).trans h.c4⟩
abbrev RB : Nat := 140737488355328
def Items (w : World) (A : Option Addr) (n : Nat) : Prop := ∀ i, i < n → ∃ ad a b, A = some ad ∧ ItemAt w ad i a b ∧ a.size ≤ RB ∧ b.size ≤ RB
theorem Items.below {w w' : World} {A : Option Addr} {n : Nat} (h : Items w A n) (hb : Below w.heap.size w w') : Items w' A n := fun i hi => by
  obtain ⟨ad, a, b, e, ha, z⟩ := h i hi
  exact ⟨ad, a, b, e, ha.below hb, z⟩
def Ints (w : World) (A : Option Addr) (n : Nat) : Prop := ∀ i, i < n → ∃ ad z, A = some ad ∧ ad.block < w.heap.size ∧ w.cell? (ad.add i) = some (.int .i64 z)
theorem Ints.below {w w' : World} {A : Option Addr} {n : Nat} (h : Ints w A n) (hb : Below w.heap.size w w') : Ints w' A n := fun i hi => by
  obtain ⟨ad, z, e, hl, hc⟩ := h i hi
  exact ⟨ad, z, e, Nat.lt_of_lt_of_le hl hb.size, (hb.cell (by rw [addB]; exact hl)).trans hc⟩
section
variable {H : Type} {enc : TypeId × Value → H} {w : World} {base : Nat} {spare : Nat → Bool} {held : Bool}
theorem one_int {n : Nat} {ad : Addr} {i : Nat} {cs : List Value} {x : DataW H × List MemPlace} (hc : w.cells? base (ad.add (i * 1)) 1 = some cs) (h : DataW.trod enc Tryd.prog w base spare held n 3 cs = some x) :
    ∃ z, ad.block < w.heap.size ∧ w.cell? (ad.add (i * 1)) = some (.int .i64 z) := by
  obtain ⟨_, hcl, hat⟩ := World.cells?_some hc
  match cs, hcl with
  | [c0], _ =>
    obtain ⟨z, e0, _, _⟩ := DataW.trod_int Tryd.underlying3 h
    injection e0 with e0 _
    subst e0
    have a0 := hat 0 (by decide)
    rw [show (ad.add (i * 1)).add 0 = ad.add (i * 1) from by unfold Addr.add; simp] at a0
    refine ⟨z, ?_, a0⟩
    have := World.block_lt_of_cell? w _ a0
    rw [addB] at this; exact this
theorem all_mem {P : Program} {e : TypeId} {y : Nat} {d : DataW H} : ∀ (l : List (DataW H)), d ∈ l → y ∈ d.weights P e → y ∈ DataW.weightsAll P e l
  | [], h, _ => absurd h List.not_mem_nil
  | a :: r, h, hy => by
    rw [DataW.weightsAll]
    rcases List.mem_cons.1 h with rfl | h
    · exact List.mem_append.2 (.inl hy)
    · exact List.mem_append.2 (.inr (all_mem r h hy))
theorem slice_ints {fuel : Nat} {c : Value} {x : DataW H × List MemPlace} (hf : DataW.trod enc Tryd.prog w base spare held fuel 35 [c] = some x) (hz : ∀ y ∈ x.1.weights Tryd.prog 35, y ≤ RB) :
    ∃ (A : Option Addr) (len cap : Nat), c = .slice A len cap ∧ Ints w A len ∧ len ≤ RB := by
  rcases open_slice Tryd.underlying35 hf with ⟨hcs, _⟩ | ⟨a', len', cap', m, n, D, Pl, hcs, _, hl, hm, hmm, hx, hi⟩
  · injection hcs with hcs _
    exact ⟨none, 0, 0, hcs, fun i hi => absurd hi (by omega), by omega⟩
  · injection hcs with hcs _
    have hlm : len' ≤ m := by rw [hmm]; split <;> omega
    have hb8 : Tryd.prog.bytesOf 3 = 8 := by kernel_rfl
    have h8 := hz _ (by rw [hx]; simp only [DataW.weights, Tryd.underlying35]; exact List.mem_cons_self)
    rw [hb8, List.length_map, List.length_range, List.length_map, List.length_range] at h8
    refine ⟨some a', len', cap', hcs, fun i hil => ?_, by omega⟩
    obtain ⟨cs', hc, ht⟩ := hi i (by omega)
    rw [nc_i] at hc
    obtain ⟨z, h1, h2⟩ := one_int hc ht
    exact ⟨a', z, rfl, h1, by rw [Nat.mul_one] at h2; exact h2⟩
end
end Go.Proofs.YtpjkbamkaicoiaaDoor.Ses
end

section
/- wharfref14.Weight: just which number. -/
set_option linter.unusedVariables false
set_option linter.unusedSimpArgs false
set_option maxRecDepth 100000
namespace Go.Proofs.YtpjkbamkaicoiaaDoor.Ses
open Go.RowKit U
abbrev NCL (nk : Int) (nn nt nd : ByteArray) (nc ns ni nm : Int) (nok : Bool) (ia : Option Addr) (il ic : Nat) (ja : Option Addr) (jl jc : Nat) : Array Value := #[.int .i64 nk, .string nn, .string nt, .string nd, .int .i64 nc, .int .i64 ns, .int .i64 ni, .int .i64 nm, .bool nok, .slice ia il ic, .slice ja jl jc]
/-- Weight's rounds: j left, at k. -/
def wl (it : Nat → ByteArray × ByteArray) (m : Int) : Nat → Nat → Int → Int
  | 0, _, acc => acc
  | j + 1, k, acc => if acc ≤ m then wl it m j (k + 1) (acc + 1 + ((it k).1.size : Int) + ((it k).2.size : Int)) else acc
def ItemsAre (w : World) (A : Option Addr) (n : Nat) (it : Nat → ByteArray × ByteArray) : Prop := ∀ i, i < n → ∃ ad, A = some ad ∧ ItemAt w ad i (it i).1 (it i).2 ∧ (it i).1.size ≤ RB ∧ (it i).2.size ≤ RB
theorem ItemsAre.below {w w' : World} {A : Option Addr} {n : Nat} {it : Nat → ByteArray × ByteArray} (h : ItemsAre w A n it) (hb : Below w.heap.size w w') : ItemsAre w' A n it := fun i hi => by
  obtain ⟨ad, e, ha, z⟩ := h i hi
  exact ⟨ad, e, ha.below hb, z⟩
theorem Items.are {w : World} {A : Option Addr} {n : Nat} (h : Items w A n) : ∃ it, ItemsAre w A n it := by
  have : ∀ i, ∃ p : ByteArray × ByteArray, i < n → ∃ ad, A = some ad ∧ ItemAt w ad i p.1 p.2 ∧ p.1.size ≤ RB ∧ p.2.size ≤ RB := fun i => by
    by_cases hi : i < n
    · obtain ⟨ad, a, b, x⟩ := h i hi
      exact ⟨(a, b), fun _ => ⟨ad, x⟩⟩
    · exact ⟨default, fun h => (hi h).elim⟩
  exact ⟨fun i => (this i).choose, fun i hi => (this i).choose_spec hi⟩
set_option maxHeartbeats 4000000 in
theorem Weight_is (nk : Int) (nn nt nd : ByteArray) (nc ns ni nm : Int) (nok : Bool) (ia : Option Addr) (il ic : Nat) (ja : Option Addr) (jl jc : Nat) (m : Int) (it : Nat → ByteArray × ByteArray) (w : World) (hI : ItemsAre w ia il it) (hl : il ≤ 9223372036854775807) (z1 : nn.size ≤ RB) (z2 : nt.size ≤ RB) (z3 : nd.size ≤ RB) (z4 : jl ≤ RB) (hm0 : m ≤ 1000000) :
    Calls Tryd.prog 12 #[.agg (NCL nk nn nt nd nc ns ni nm nok ia il ic ja jl jc), .int .i64 m] w fun e w' => e = .returned (.int .i64 (wl it m il 0 ((nn.size : Int) + (nt.size : Int) + (nd.size : Int) + (jl : Int)))) ∧ Own w [] w' := by
  unfold RB at z1 z2 z3 z4
  obtain ⟨g, hg⟩ : ∃ g, g = w.heap.size := ⟨_, rfl⟩
  have H0 : Hid (Own w [(g, 37, NCL nk nn nt nd nc ns ni nm nok ia il ic ja jl jc)] (w.alloc (.cells (NCL nk nn nt nd nc ns ni nm nok ia il ic ja jl jc) 37))) := Lib.hid ((Own.start w).alloc _ _ hg)
  have HI := Lib.hid hI
  clear hI
  obtain ⟨R, HR⟩ : ∃ R, Hid (R = wl it m il 0 ((nn.size : Int) + (nt.size : Int) + (nd.size : Int) + (jl : Int))) := ⟨_, Lib.hid rfl⟩
  rw [← HR.out]
  go_enter Tryd.func12, Tryd.ntmps12
  go_wp2
  rw [← hg]
  clear hg
  go_loopw [5, 6] (fun v i wr => ∃ (k : Nat) (acc : Int), k ≤ il ∧ i = .int .i64 k ∧ v = .int .i64 acc ∧ 0 ≤ acc ∧ acc ≤ 1000000000000000000 ∧ Hid (wl it m (il - k) k acc = R) ∧ Hid (Own w [(g, 37, NCL nk nn nt nd nc ns ni nm nok ia il ic ja jl jc)] wr)) (fun _ i _ => il - (intOf i).toNat)
  case atStart => exact ⟨0, _, by omega, rfl, rfl, by omega, by omega, Lib.hid (by rw [HR.out, Nat.sub_zero]), H0⟩
  case round =>
    clear H0
    obtain ⟨k, acc, hk, rfl, rfl, ha1, ha2, HW, HO⟩ := hrel
    have c9 := HO.out.cell 0 9 rfl rfl
    by_cases hlt : k < il
    · by_cases hm : acc ≤ m
      · go_wp2
        obtain ⟨ad, rfl, hit, za, zb⟩ := (HI.out.below HO.out.low) k hlt
        unfold RB at za zb
        have hw := HW.out
        rw [show il - k = (il - (k + 1)) + 1 from by omega] at hw
        unfold wl at hw
        rw [if_pos hm] at hw
        generalize (it k).1 = a at hit za hw
        generalize (it k).2 = b at hit zb hw
        clear HW
        have HW := Lib.hid hw
        clear hw
        have HT := Lib.hid hit
        clear hit c9
        obtain ⟨S, MK, UN⟩ : ∃ S : World → Prop, Hid (∀ x, Own w [(g, 37, NCL nk nn nt nd nc ns ni nm nok (some ad) il ic ja jl jc)] x ∧ ItemAt x ad k a b → S x) ∧ Hid (∀ x, S x → Own w [(g, 37, NCL nk nn nt nd nc ns ni nm nok (some ad) il ic ja jl jc)] x ∧ ItemAt x ad k a b) := ⟨_, Lib.hid (fun _ h => h), Lib.hid (fun _ h => h)⟩
        have p9 : ∀ x : U.In S, x.w.cell? ⟨g, 9, none⟩ = some (.slice (some ad) il ic) := fun x => (UN.out _ x.h).1.cell 0 9 rfl rfl
        have q0 : ∀ x : U.In S, x.w.cell? (ad.add (k * 6)) = some (.string a) := fun x => (UN.out _ x.h).2.c0
        have q4 : ∀ x : U.In S, x.w.cell? ⟨(ad.add (k * 6)).block, (ad.add (k * 6)).off + 4, none⟩ = some (.string b) := fun x => (UN.out _ x.h).2.c4
        have HS : Hid (S wr.drew) := Lib.hid (MK.out _ ⟨HO.out.drew, HT.out.below (U.below_drewN (Below.refl _ _) 1)⟩)
        haveI : Nonempty (U.In S) := ⟨⟨_, HS.out⟩⟩
        refine U.region_in (S := S) (by kernel_rfl) (by kernel_rfl) HS.out ?_
        repeat (go_big_quiet_step (fail))
        refine wpQuiet_nil ?_
        intro w9 h9
        have H9 := Lib.hid (UN.out _ h9)
        clear h9 this HS p9 q0 q4 MK UN HT
        go_wp2
        go_roundw
        case rel => exact ⟨k + 1, _, by omega, by go_num, rfl, by omega, by omega, HW, Lib.hid H9.out.1⟩
        case measure => simp [intOf]; omega
      · go_wp2
        go_ret
        refine ⟨?_, HO.out.pick [] (by decide)⟩
        have hw := HW.out
        rw [show il - k = (il - (k + 1)) + 1 from by omega] at hw
        unfold wl at hw
        rw [if_neg (by omega)] at hw
        rw [hw]; rfl
    · go_wp2
      go_ret
      refine ⟨?_, HO.out.pick [] (by decide)⟩
      have hw := HW.out
      rw [show il - k = 0 from by omega] at hw
      rw [← hw]; rfl
end Go.Proofs.YtpjkbamkaicoiaaDoor.Ses
end

section
/- A note's item with all its cells; an act (a note within) as an argument: opened. (Printed by gen_sesx.py.) -/
set_option linter.unusedVariables false
set_option linter.unusedSimpArgs false
set_option maxRecDepth 100000
namespace Go.Proofs.YtpjkbamkaicoiaaDoor.Ses
open Go.RowKit U Go.ChangeShapes Go.WideShapes Go.Deep Go.ChangeAt
theorem nc_act : Tryd.prog.cellsOf 50 = 13 := by kernel_rfl
structure Item6 (w : World) (ad : Addr) (i : Nat) (c0 : ByteArray) (c1 : Int) (c2 : Int) (c3 : Int) (c4 : ByteArray) (c5 : Bool) : Prop where
  lt : ad.block < w.heap.size
  c0_ : w.cell? (ad.add (i * 6)) = some (.string c0)
  c1_ : w.cell? ⟨(ad.add (i * 6)).block, (ad.add (i * 6)).off + 1, none⟩ = some (.int .i64 c1)
  c2_ : w.cell? ⟨(ad.add (i * 6)).block, (ad.add (i * 6)).off + 2, none⟩ = some (.int .i64 c2)
  c3_ : w.cell? ⟨(ad.add (i * 6)).block, (ad.add (i * 6)).off + 3, none⟩ = some (.int .i64 c3)
  c4_ : w.cell? ⟨(ad.add (i * 6)).block, (ad.add (i * 6)).off + 4, none⟩ = some (.string c4)
  c5_ : w.cell? ⟨(ad.add (i * 6)).block, (ad.add (i * 6)).off + 5, none⟩ = some (.bool c5)
theorem Item6.below {w w' : World} {ad : Addr} {i : Nat} {c0 : ByteArray} {c1 : Int} {c2 : Int} {c3 : Int} {c4 : ByteArray} {c5 : Bool} (h : Item6 w ad i c0 c1 c2 c3 c4 c5) (hb : Below w.heap.size w w') : Item6 w' ad i c0 c1 c2 c3 c4 c5 :=
  ⟨Nat.lt_of_lt_of_le h.lt hb.size, (hb.cell (by rw [addB]; exact h.lt)).trans h.c0_, (hb.cell (by show (ad.add (i * 6)).block < _; rw [addB]; exact h.lt)).trans h.c1_, (hb.cell (by show (ad.add (i * 6)).block < _; rw [addB]; exact h.lt)).trans h.c2_, (hb.cell (by show (ad.add (i * 6)).block < _; rw [addB]; exact h.lt)).trans h.c3_, (hb.cell (by show (ad.add (i * 6)).block < _; rw [addB]; exact h.lt)).trans h.c4_, (hb.cell (by show (ad.add (i * 6)).block < _; rw [addB]; exact h.lt)).trans h.c5_⟩
def Items6 (w : World) (A : Option Addr) (n : Nat) : Prop := ∀ i, i < n → ∃ (ad : Addr) (c0 : ByteArray) (c1 : Int) (c2 : Int) (c3 : Int) (c4 : ByteArray) (c5 : Bool), A = some ad ∧ Item6 w ad i c0 c1 c2 c3 c4 c5 ∧ c0.size ≤ RB ∧ c4.size ≤ RB
theorem Items6.below {w w' : World} {A : Option Addr} {n : Nat} (h : Items6 w A n) (hb : Below w.heap.size w w') : Items6 w' A n := fun i hi => by
  obtain ⟨ad, c0, c1, c2, c3, c4, c5, e, ha, z⟩ := h i hi
  exact ⟨ad, c0, c1, c2, c3, c4, c5, e, ha.below hb, z⟩
theorem Items6.items {w : World} {A : Option Addr} {n : Nat} (h : Items6 w A n) : Items w A n := fun i hi => by
  obtain ⟨ad, c0, c1, c2, c3, c4, c5, e, ha, z⟩ := h i hi
  exact ⟨ad, c0, c4, e, ⟨ha.lt, ha.c0_, ha.c4_⟩, z⟩
section
variable {H : Type} {enc : TypeId × Value → H} {w : World} {base : Nat} {spare : Nat → Bool} {held : Bool}
theorem one_item6 {n : Nat} {ad : Addr} {i : Nat} {cs : List Value} {x : DataW H × List MemPlace} (hc : w.cells? base (ad.add (i * 6)) 6 = some cs) (h : DataW.trod enc Tryd.prog w base spare held n 68 cs = some x) :
    ∃ (c0 : ByteArray) (c1 : Int) (c2 : Int) (c3 : Int) (c4 : ByteArray) (c5 : Bool), Item6 w ad i c0 c1 c2 c3 c4 c5 ∧ c0.data.toList.length ∈ x.1.weights Tryd.prog 68 ∧ c4.data.toList.length ∈ x.1.weights Tryd.prog 68 := by
  obtain ⟨ys, n', _, hx, _, hyl, hf⟩ := DataW.trod_struct Tryd.underlying68 h
  obtain ⟨_, hcl, hat⟩ := World.cells?_some hc
  match cs, hcl with
  | [c0, c1, c2, c3, c4, c5], _ =>
    match ys, hyl with
    | [y0, y1, y2, y3, y4, y5], _ =>
      have h0 := hf 0 _ rfl
      have h1 := hf 1 _ rfl
      have h2 := hf 2 _ rfl
      have h3 := hf 3 _ rfl
      have h4 := hf 4 _ rfl
      have h5 := hf 5 _ rfl
      simp only [nc_i, nc_s, nc_b, List.drop_zero, List.drop_succ_cons, List.take_succ_cons, List.take_zero, List.getElem?_cons_zero, List.getElem?_cons_succ] at h0 h1 h2 h3 h4 h5
      obtain ⟨s0, e0, g0, _⟩ := DataW.trod_string Tryd.underlying9 h0
      obtain ⟨s1, e1, _, _⟩ := DataW.trod_int Tryd.underlying3 h1
      obtain ⟨s2, e2, _, _⟩ := DataW.trod_int Tryd.underlying3 h2
      obtain ⟨s3, e3, _, _⟩ := DataW.trod_int Tryd.underlying3 h3
      obtain ⟨s4, e4, g4, _⟩ := DataW.trod_string Tryd.underlying9 h4
      obtain ⟨s5, e5, _⟩ := DataW.trod_bool Tryd.underlying4 h5
      injection e0 with e0 _
      subst e0
      injection e1 with e1 _
      subst e1
      injection e2 with e2 _
      subst e2
      injection e3 with e3 _
      subst e3
      injection e4 with e4 _
      subst e4
      injection e5 with e5 _
      subst e5
      subst g0; subst g4
      have a0 := hat 0 (by decide)
      have a1 := hat 1 (by decide)
      have a2 := hat 2 (by decide)
      have a3 := hat 3 (by decide)
      have a4 := hat 4 (by decide)
      have a5 := hat 5 (by decide)
      rw [show (ad.add (i * 6)).add 0 = ad.add (i * 6) from by unfold Addr.add; simp] at a0
      rw [add_pos _ _ (by decide)] at a1
      rw [add_pos _ _ (by decide)] at a2
      rw [add_pos _ _ (by decide)] at a3
      rw [add_pos _ _ (by decide)] at a4
      rw [add_pos _ _ (by decide)] at a5
      refine ⟨s0, s1, s2, s3, s4, s5, ⟨?_, a0, a1, a2, a3, a4, a5⟩, by rw [hx]; simp [DataW.weights, DataW.weightsEach, Tryd.underlying68], by rw [hx]; simp [DataW.weights, DataW.weightsEach, Tryd.underlying68]⟩
      have := World.block_lt_of_cell? w _ a0
      rw [addB] at this; exact this
theorem slice_items6 {fuel : Nat} {c : Value} {x : DataW H × List MemPlace} (hf : DataW.trod enc Tryd.prog w base spare held fuel 34 [c] = some x) (hz : ∀ y ∈ x.1.weights Tryd.prog 34, y ≤ RB) :
    ∃ (A : Option Addr) (len cap : Nat), c = .slice A len cap ∧ Items6 w A len ∧ len ≤ maxLen := by
  rcases open_slice Tryd.underlying34 hf with ⟨hcs, _⟩ | ⟨a', len', cap', m, n, D, Pl, hcs, _, hl, hm, hmm, hx, hi⟩
  · injection hcs with hcs _
    exact ⟨none, 0, 0, hcs, fun i hi => absurd hi (by omega), by omega⟩
  · injection hcs with hcs _
    have hlm : len' ≤ m := by rw [hmm]; split <;> omega
    refine ⟨some a', len', cap', hcs, fun i hil => ?_, by omega⟩
    obtain ⟨cs', hc, ht⟩ := hi i (by omega)
    rw [nc_item] at hc
    obtain ⟨c0, c1, c2, c3, c4, c5, h, ha, hb⟩ := one_item6 hc ht
    have hw : ∀ y ∈ (D i).weights Tryd.prog 68, y ≤ RB := fun y hy => hz y (by
      rw [hx]
      simp only [DataW.weights, Tryd.underlying34]
      refine List.mem_cons_of_mem _ (List.mem_append.2 (.inl (all_mem _ ?_ hy)))
      exact List.mem_map.2 ⟨i, List.mem_range.2 hil, rfl⟩)
    exact ⟨a', c0, c1, c2, c3, c4, c5, rfl, h, by rw [← U.len_data]; exact hw _ ha, by rw [← U.len_data]; exact hw _ hb⟩
theorem note_cells {fuel : Nat} {c0 c1 c2 c3 c4 c5 c6 c7 c8 c9 c10 : Value} {x : DataW H × List MemPlace} (hf : DataW.trod enc Tryd.prog w base spare held fuel 37 [c0, c1, c2, c3, c4, c5, c6, c7, c8, c9, c10] = some x) (hz : ∀ y ∈ x.1.weights Tryd.prog 37, y ≤ RB) :
    ∃ (nk : Int) (nn nt nd : ByteArray) (nc ns ni nm : Int) (nok : Bool) (ia : Option Addr) (il ic : Nat) (ja : Option Addr) (jl jc : Nat), [c0, c1, c2, c3, c4, c5, c6, c7, c8, c9, c10] = [.int .i64 nk, .string nn, .string nt, .string nd, .int .i64 nc, .int .i64 ns, .int .i64 ni, .int .i64 nm, .bool nok, .slice ia il ic, .slice ja jl jc] ∧
      nn.size ≤ RB ∧ nt.size ≤ RB ∧ nd.size ≤ RB ∧ Items6 w ia il ∧ il ≤ maxLen ∧ Ints w ja jl ∧ jl ≤ RB := by
  obtain ⟨ys, n', _, hx0, _, hyl, hg⟩ := DataW.trod_struct Tryd.underlying37 hf
  have hx := congrArg Prod.fst hx0
  dsimp only at hx
  match ys, hyl with
  | [y0, y1, y2, y3, y4, y5, y6, y7, y8, y9, y10], _ =>
    have h0 := hg 0 _ rfl
    have h1 := hg 1 _ rfl
    have h2 := hg 2 _ rfl
    have h3 := hg 3 _ rfl
    have h4 := hg 4 _ rfl
    have h5 := hg 5 _ rfl
    have h6 := hg 6 _ rfl
    have h7 := hg 7 _ rfl
    have h8 := hg 8 _ rfl
    have h9 := hg 9 _ rfl
    have h10 := hg 10 _ rfl
    simp only [nc_i, nc_s, nc_b, nc_l, nc_I, nc_C, List.drop_zero, List.drop_succ_cons, List.take_succ_cons, List.take_zero, List.getElem?_cons_zero, List.getElem?_cons_succ] at h0 h1 h2 h3 h4 h5 h6 h7 h8 h9 h10
    obtain ⟨x0, e0, _, _⟩ := DataW.trod_int Tryd.underlying3 h0
    obtain ⟨x1, e1, g1, z1⟩ := DataW.trod_string Tryd.underlying9 h1
    obtain ⟨x2, e2, g2, z2⟩ := DataW.trod_string Tryd.underlying9 h2
    obtain ⟨x3, e3, g3, z3⟩ := DataW.trod_string Tryd.underlying9 h3
    obtain ⟨x4, e4, _, _⟩ := DataW.trod_int Tryd.underlying3 h4
    obtain ⟨x5, e5, _, _⟩ := DataW.trod_int Tryd.underlying3 h5
    obtain ⟨x6, e6, _, _⟩ := DataW.trod_int Tryd.underlying2 h6
    obtain ⟨x7, e7, _, _⟩ := DataW.trod_int Tryd.underlying2 h7
    obtain ⟨x8, e8, _⟩ := DataW.trod_bool Tryd.underlying4 h8
    obtain ⟨ia, il, ic, rfl, hI, lI⟩ := slice_items6 h9 (fun y hy => hz y (by rw [hx]; simp only [DataW.weights, Tryd.underlying37, List.map_cons, List.map_nil, DataW.weightsEach]; simp [hy]))
    obtain ⟨ja, jl, jc, rfl, hC, lC⟩ := slice_ints h10 (fun y hy => hz y (by rw [hx]; simp only [DataW.weights, Tryd.underlying37, List.map_cons, List.map_nil, DataW.weightsEach]; simp [hy]))
    injection e0 with e0 _; injection e1 with e1 _; injection e2 with e2 _; injection e3 with e3 _; injection e4 with e4 _; injection e5 with e5 _; injection e6 with e6 _; injection e7 with e7 _; injection e8 with e8 _
    subst e0; subst e1; subst e2; subst e3; subst e4; subst e5; subst e6; subst e7; subst e8
    subst g1; subst g2; subst g3
    have zz : ∀ s ∈ [x1, x2, x3], s.size ≤ RB := fun s hs => by
      rw [← U.len_data]
      refine hz _ ?_
      rw [hx]
      simp only [DataW.weights, Tryd.underlying37, List.map_cons, List.map_nil, DataW.weightsEach]
      simp only [List.mem_cons, List.not_mem_nil, or_false] at hs
      rcases hs with rfl | rfl | rfl <;> simp
    exact ⟨x0, x1, x2, x3, x4, x5, x6, x7, x8, ia, il, ic, ja, jl, jc, rfl, zz _ (by simp), zz _ (by simp), zz _ (by simp), hI, lI, hC, lC⟩
end
end Go.Proofs.YtpjkbamkaicoiaaDoor.Ses
end

section
/- wharfref14.Same of a note and itself: yes. (Printed by gen_sesx1.py.) -/
set_option linter.unusedVariables false
set_option linter.unusedSimpArgs false
set_option maxRecDepth 100000
namespace Go.Proofs.YtpjkbamkaicoiaaDoor.Ses
open Go.RowKit U
set_option maxHeartbeats 4000000 in
theorem NSame_eq (nk : Int) (nn nt nd : ByteArray) (nc ns ni nm : Int) (nok : Bool) (ia : Option Addr) (il ic : Nat) (ja : Option Addr) (jl jc : Nat) (w : World) (hI : Items6 w ia il) (hl : il ≤ 9223372036854775807) (hJ : Ints w ja jl) (hl2 : jl ≤ 9223372036854775807) :
    Calls Tryd.prog 56 #[.agg (NCL nk nn nt nd nc ns ni nm nok ia il ic ja jl jc), .agg (NCL nk nn nt nd nc ns ni nm nok ia il ic ja jl jc)] w fun e w' => e = .returned (.bool true) ∧ Own w [] w' := by
  obtain ⟨g, hg⟩ : ∃ g, g = w.heap.size := ⟨_, rfl⟩
  obtain ⟨gq, hgq⟩ : ∃ gq, gq = g + 1 := ⟨_, rfl⟩
  have H0 : Hid (Own w [(gq, 37, NCL nk nn nt nd nc ns ni nm nok ia il ic ja jl jc), (g, 37, NCL nk nn nt nd nc ns ni nm nok ia il ic ja jl jc)] ((w.alloc (.cells (NCL nk nn nt nd nc ns ni nm nok ia il ic ja jl jc) 37)).alloc (.cells (NCL nk nn nt nd nc ns ni nm nok ia il ic ja jl jc) 37))) := Lib.hid (((Own.start w).alloc _ _ hg).alloc _ _ (by rw [hgq, hg]; rw [World.alloc]; exact (Array.size_push _).symm))
  have HI := Lib.hid hI
  have HJ := Lib.hid hJ
  clear hI hJ
  go_enter Tryd.func56, Tryd.ntmps56
  go_wp2
  rw [← hg, ← hgq]
  clear hgq hg
  generalize (Value.pointer (some ({ block := g, off := 1 } : Addr))) = y1
  generalize (Value.pointer (some ({ block := gq, off := 1 } : Addr))) = z1
  generalize (Value.pointer (some ({ block := g, off := 2 } : Addr))) = y2
  generalize (Value.pointer (some ({ block := gq, off := 2 } : Addr))) = z2
  generalize (Value.pointer (some ({ block := g, off := 3 } : Addr))) = y3
  generalize (Value.pointer (some ({ block := gq, off := 3 } : Addr))) = z3
  generalize (Value.pointer (some ({ block := g, off := 4 } : Addr))) = y4
  generalize (Value.pointer (some ({ block := gq, off := 4 } : Addr))) = z4
  generalize (Value.pointer (some ({ block := g, off := 5 } : Addr))) = y5
  generalize (Value.pointer (some ({ block := gq, off := 5 } : Addr))) = z5
  generalize (Value.pointer (some ({ block := g, off := 6 } : Addr))) = y6
  generalize (Value.pointer (some ({ block := gq, off := 6 } : Addr))) = z6
  generalize (Value.pointer (some ({ block := g, off := 7 } : Addr))) = y7
  generalize (Value.pointer (some ({ block := gq, off := 7 } : Addr))) = z7
  generalize (Value.pointer (some ({ block := g, off := 8 } : Addr))) = y8
  generalize (Value.pointer (some ({ block := gq, off := 8 } : Addr))) = z8
  generalize (Value.pointer (some ({ block := g, off := 9 } : Addr))) = y9
  generalize (Value.pointer (some ({ block := gq, off := 9 } : Addr))) = z9
  generalize (Value.pointer (some ({ block := g, off := 10 } : Addr))) = y10
  generalize (Value.pointer (some ({ block := gq, off := 10 } : Addr))) = z10
  generalize Value.agg (NCL nk nn nt nd nc ns ni nm nok ia il ic ja jl jc) = yN
  generalize Value.slice ia il ic = yI
  generalize Value.slice ja jl jc = yJ
  generalize Value.string nn = ys
  generalize Value.string nt = yt
  generalize Value.string nd = yd
  go_loopw [5] (fun i wr => ∃ (k : Nat), k ≤ il ∧ i = .int .i64 k ∧ Hid (Own w [(gq, 37, NCL nk nn nt nd nc ns ni nm nok ia il ic ja jl jc), (g, 37, NCL nk nn nt nd nc ns ni nm nok ia il ic ja jl jc)] wr)) (fun i _ => il - (intOf i).toNat)
  case atStart => exact ⟨0, by omega, rfl, H0⟩
  case round =>
    clear H0
    obtain ⟨k, hk, rfl, HO⟩ := hrel
    have c1 : wr.cell? ⟨gq, 9, none⟩ = some (.slice ia il ic) := HO.out.cell 0 9 rfl rfl
    have c2 : wr.cell? ⟨g, 9, none⟩ = some (.slice ia il ic) := HO.out.cell 1 9 rfl rfl
    by_cases hlt : k < il
    · go_wp2
      obtain ⟨ad, c0, c1', c2', c3, c4, c5, rfl, hit, _⟩ := (HI.out.below HO.out.low) k hlt
      have HT := Lib.hid hit
      clear hit c1 c2
      obtain ⟨S, MK, UN⟩ : ∃ S : World → Prop, Hid (∀ x, Own w [(gq, 37, NCL nk nn nt nd nc ns ni nm nok (some ad) il ic ja jl jc), (g, 37, NCL nk nn nt nd nc ns ni nm nok (some ad) il ic ja jl jc)] x ∧ Item6 x ad k c0 c1' c2' c3 c4 c5 → S x) ∧ Hid (∀ x, S x → Own w [(gq, 37, NCL nk nn nt nd nc ns ni nm nok (some ad) il ic ja jl jc), (g, 37, NCL nk nn nt nd nc ns ni nm nok (some ad) il ic ja jl jc)] x ∧ Item6 x ad k c0 c1' c2' c3 c4 c5) := ⟨_, Lib.hid (fun _ h => h), Lib.hid (fun _ h => h)⟩
      have p1 : ∀ x : U.In S, x.w.cell? ⟨gq, 9, none⟩ = some (.slice (some ad) il ic) := fun x => (UN.out _ x.h).1.cell 0 9 rfl rfl
      have p2 : ∀ x : U.In S, x.w.cell? ⟨g, 9, none⟩ = some (.slice (some ad) il ic) := fun x => (UN.out _ x.h).1.cell 1 9 rfl rfl
      have q0 : ∀ x : U.In S, x.w.cell? (ad.add (k * 6)) = some (.string c0) := fun x => (UN.out _ x.h).2.c0_
      have q1 : ∀ x : U.In S, x.w.cell? ⟨(ad.add (k * 6)).block, (ad.add (k * 6)).off + 1, none⟩ = some (.int .i64 c1') := fun x => (UN.out _ x.h).2.c1_
      have q2 : ∀ x : U.In S, x.w.cell? ⟨(ad.add (k * 6)).block, (ad.add (k * 6)).off + 2, none⟩ = some (.int .i64 c2') := fun x => (UN.out _ x.h).2.c2_
      have q3 : ∀ x : U.In S, x.w.cell? ⟨(ad.add (k * 6)).block, (ad.add (k * 6)).off + 3, none⟩ = some (.int .i64 c3) := fun x => (UN.out _ x.h).2.c3_
      have q4 : ∀ x : U.In S, x.w.cell? ⟨(ad.add (k * 6)).block, (ad.add (k * 6)).off + 4, none⟩ = some (.string c4) := fun x => (UN.out _ x.h).2.c4_
      have q5 : ∀ x : U.In S, x.w.cell? ⟨(ad.add (k * 6)).block, (ad.add (k * 6)).off + 5, none⟩ = some (.bool c5) := fun x => (UN.out _ x.h).2.c5_
      have HS : Hid (S wr.drew) := Lib.hid (MK.out _ ⟨HO.out.drew, HT.out.below (U.below_drewN (Below.refl _ _) 1)⟩)
      haveI : Nonempty (U.In S) := ⟨⟨_, HS.out⟩⟩
      refine U.region_in (S := S) (by kernel_rfl) (by kernel_rfl) HS.out ?_
      repeat (go_big_quiet_step (fail))
      refine wpQuiet_nil ?_
      intro w9 h9
      have H9 := Lib.hid (UN.out _ h9)
      clear h9 this HS p1 p2 q0 q1 q2 q3 q4 q5 MK UN HT
      go_wp2
      go_roundw
      case rel => exact ⟨k + 1, by omega, by go_num, Lib.hid H9.out.1⟩
      case measure => simp [intOf]; omega
    · go_wp2
      clear c1 c2
      go_loopw [6] (fun i wr => ∃ (k : Nat), k ≤ jl ∧ i = .int .i64 k ∧ Hid (Own w [(gq, 37, NCL nk nn nt nd nc ns ni nm nok ia il ic ja jl jc), (g, 37, NCL nk nn nt nd nc ns ni nm nok ia il ic ja jl jc)] wr)) (fun i _ => jl - (intOf i).toNat)
      case atStart => exact ⟨0, by omega, rfl, HO⟩
      case round =>
        clear HO
        obtain ⟨j, hj, rfl, HO⟩ := hrel
        have c1 : wr.cell? ⟨gq, 10, none⟩ = some (.slice ja jl jc) := HO.out.cell 0 10 rfl rfl
        have c2 : wr.cell? ⟨g, 10, none⟩ = some (.slice ja jl jc) := HO.out.cell 1 10 rfl rfl
        by_cases hlt2 : j < jl
        · go_wp2
          obtain ⟨ad, z, rfl, hb, hc⟩ := (HJ.out.below HO.out.low) j hlt2
          clear c1 c2
          have hc' := (U.below_drewN (Below.refl _ _) 1 : Below wr.heap.size wr wr.drew)
          have HT : Hid (wr.drew.cell? (ad.add j) = some (.int .i64 z)) := Lib.hid ((hc'.cell (by rw [addB]; exact hb)).trans hc)
          clear hc hc' hb
          obtain ⟨S, MK, UN⟩ : ∃ S : World → Prop, Hid (∀ x, Own w [(gq, 37, NCL nk nn nt nd nc ns ni nm nok ia il ic (some ad) jl jc), (g, 37, NCL nk nn nt nd nc ns ni nm nok ia il ic (some ad) jl jc)] x ∧ x.cell? (ad.add j) = some (.int .i64 z) → S x) ∧ Hid (∀ x, S x → Own w [(gq, 37, NCL nk nn nt nd nc ns ni nm nok ia il ic (some ad) jl jc), (g, 37, NCL nk nn nt nd nc ns ni nm nok ia il ic (some ad) jl jc)] x ∧ x.cell? (ad.add j) = some (.int .i64 z)) := ⟨_, Lib.hid (fun _ h => h), Lib.hid (fun _ h => h)⟩
          have p1 : ∀ x : U.In S, x.w.cell? ⟨gq, 10, none⟩ = some (.slice (some ad) jl jc) := fun x => (UN.out _ x.h).1.cell 0 10 rfl rfl
          have p2 : ∀ x : U.In S, x.w.cell? ⟨g, 10, none⟩ = some (.slice (some ad) jl jc) := fun x => (UN.out _ x.h).1.cell 1 10 rfl rfl
          have q0 : ∀ x : U.In S, x.w.cell? (ad.add j) = some (.int .i64 z) := fun x => (UN.out _ x.h).2
          have HS : Hid (S wr.drew) := Lib.hid (MK.out _ ⟨HO.out.drew, HT.out⟩)
          haveI : Nonempty (U.In S) := ⟨⟨_, HS.out⟩⟩
          refine U.region_in (S := S) (by kernel_rfl) (by kernel_rfl) HS.out ?_
          repeat (go_big_quiet_step (fail))
          refine wpQuiet_nil ?_
          intro w9 h9
          have H9 := Lib.hid (UN.out _ h9)
          clear h9 this HS p1 p2 q0 MK UN HT
          go_wp2
          go_roundw
          case rel => exact ⟨j + 1, by omega, by go_num, Lib.hid H9.out.1⟩
          case measure => simp [intOf]; omega
        · go_wp2
          go_ret
          exact ⟨rfl, HO.out.pick [] (by decide)⟩
end Go.Proofs.YtpjkbamkaicoiaaDoor.Ses
end
