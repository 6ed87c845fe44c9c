/- Contracts of functions of this translation, and what they come to; what is not used is left out. -/
import Derived.Test.YtpjkbamkaicoiaaDoorPg7p1
import Derived.Test.YtpjkbamkaicoiaaDoorPg7p0
import Derived.Test.YtpjkbamkaicoiaaDoorPSesTa
import Derived.Test.YtpjkbamkaicoiaaDoorPSesT0
import Derived.Test.YtpjkbamkaicoiaaDoorPSesE1
import Derived.Test.YtpjkbamkaicoiaaDoorPSesE0
import Derived.Test.YtpjkbamkaicoiaaDoorPg1
import Derived.Test.YtpjkbamkaicoiaaDoorPg5
import Derived.Test.YtpjkbamkaicoiaaDoorPCls
import Derived.Test.YtpjkbamkaicoiaaDoorPUtil
import Derived.Test.YtpjkbamkaicoiaaDoorPSoft
import Derived.Test.YtpjkbamkaicoiaaDoorPHanS
import Derived.Test.YtpjkbamkaicoiaaDoorPHanR
import Derived.Test.YtpjkbamkaicoiaaDoorPHanQ
import Derived.Test.YtpjkbamkaicoiaaDoorPRaQ
import Derived.Test.YtpjkbamkaicoiaaDoorPRefJ
import Derived.Test.YtpjkbamkaicoiaaDoorPRefF
import Derived.Test.YtpjkbamkaicoiaaDoorPGlyA
import Derived.Test.YtpjkbamkaicoiaaDoorPGlyP
import Derived.Test.YtpjkbamkaicoiaaDoorPJidP
import Derived.Test.YtpjkbamkaicoiaaDoorPStrs
import Derived.Test.YtpjkbamkaicoiaaDoorPShelf
import Derived.Test.YtpjkbamkaicoiaaDoorPRaP
import Derived.Test.YtpjkbamkaicoiaaDoorPRa2
import Derived.Test.YtpjkbamkaicoiaaDoorPRa1
import Derived.Test.YtpjkbamkaicoiaaDoorPRa0
import Derived.Test.YtpjkbamkaicoiaaDoorPg0
import Derived.Test.YtpjkbamkaicoiaaDoorPHanP
import Derived.Test.YtpjkbamkaicoiaaDoorPEscB
import Derived.Test.YtpjkbamkaicoiaaDoorPEscA
import Derived.Test.YtpjkbamkaicoiaaDoorPEscP
import Derived.Test.YtpjkbamkaicoiaaDoorPBld
import Derived.Test.YtpjkbamkaicoiaaDoorPHanA
import Derived.Test.YtpjkbamkaicoiaaDoorPRep
import Derived.Test.YtpjkbamkaicoiaaDoorPRc3
import Derived.Test.YtpjkbamkaicoiaaDoorPRc2
import Derived.Test.YtpjkbamkaicoiaaDoorPRc1
import Derived.Test.YtpjkbamkaicoiaaDoorPRc0
import Derived.Test.YtpjkbamkaicoiaaDoorPHanF
import Derived.Test.YtpjkbamkaicoiaaDoorPg4
import Derived.Test.YtpjkbamkaicoiaaDoorPg6
import Derived.Test.YtpjkbamkaicoiaaDoorPBox
import Derived.Test.YtpjkbamkaicoiaaDoorPg3

section
/- A row of acts as an argument: opened; what is known of an element that is not looked into. (Printed by gen_sesu.py.) -/
set_option linter.unusedVariables false
set_option linter.unusedSimpArgs false
set_option maxRecDepth 100000
namespace Go.Proofs.YtpjkbamkaicoiaaDoor.Ses
open Go.RowKit U Go.ChangeShapes Go.WideShapes Go.Deep Go.ChangeAt Go.Proofs.YtpjkbamkaicoiaaDoor.E
structure ActV where
  kd : Int
  nk : Int
  nn : ByteArray
  nt : ByteArray
  nd : ByteArray
  nc : Int
  ns : Int
  ni : Int
  nm : Int
  nok : Bool
  ia : Option Addr
  il : Nat
  ic : Nat
  ja : Option Addr
  jl : Nat
  jc : Nat
  cd : Int
deriving Inhabited
def ActV.cells (a : ActV) : List Value := [.int .i64 a.kd, .int .i64 a.nk, .string a.nn, .string a.nt, .string a.nd, .int .i64 a.nc, .int .i64 a.ns, .int .i64 a.ni, .int .i64 a.nm, .bool a.nok, .slice a.ia a.il a.ic, .slice a.ja a.jl a.jc, .int .i64 a.cd]
structure ActAt (w : World) (ad : Addr) (i : Nat) (a : ActV) : Prop where
  lt : ad.block < w.heap.size
  cell : ∀ j v, a.cells[j]? = some v → w.cell? ((ad.add (i * 13)).add j) = some v
  z1 : a.nn.size ≤ RB
  z2 : a.nt.size ≤ RB
  z3 : a.nd.size ≤ RB
  hI : Items6 w a.ia a.il
  hl : a.il ≤ 9223372036854775807
  hJ : Ints w a.ja a.jl
  z4 : a.jl ≤ RB
theorem ActAt.same {w w' : World} (h : ∀ b, b < w.heap.size → w'.heap[b]? = w.heap[b]?) {ad : Addr} {i : Nat} {a : ActV} (ha : ActAt w ad i a) : ActAt w' ad i a :=
  ⟨size_same h ha.lt, fun j v hj => (mem_same h (by rw [addB, addB]; exact ha.lt)).trans (ha.cell j v hj), ha.z1, ha.z2, ha.z3, ha.hI.same h, ha.hl, ha.hJ.same h, ha.z4⟩
def Acts (w : World) (A : Option Addr) (n : Nat) (av : Nat → ActV) : Prop := ∀ i, i < n → ∃ ad, A = some ad ∧ ActAt w ad i (av i)
theorem Acts.same {w w' : World} (h : ∀ b, b < w.heap.size → w'.heap[b]? = w.heap[b]?) {A : Option Addr} {n : Nat} {av : Nat → ActV} (ha : Acts w A n av) : Acts w' A n av := fun i hi => by
  obtain ⟨ad, e, x⟩ := ha i hi
  exact ⟨ad, e, x.same h⟩
section
variable {H : Type} {enc : TypeId × Value → H} {w : World} {base : Nat} {spare : Nat → Bool} {held : Bool}
theorem one_act {n : Nat} {ad : Addr} {i : Nat} {cs : List Value} {x : DataW H × List MemPlace} (hc : w.cells? base (ad.add (i * 13)) 13 = some cs) (hf : DataW.trod enc Tryd.prog w base spare held n 50 cs = some x) (hz : ∀ y ∈ x.1.weights Tryd.prog 50, y ≤ RB) : ∃ a, ActAt w ad i a := by
  obtain ⟨_, hcl, hat⟩ := World.cells?_some hc
  match cs, hcl with
  | [c0, c1, c2, c3, c4, c5, c6, c7, c8, c9, c10, c11, c12], _ =>
    obtain ⟨ys, n', _, hx0, _, hyl, hg⟩ := DataW.trod_struct Tryd.underlying50 hf
    have hx := congrArg Prod.fst hx0
    dsimp only at hx
    match ys, hyl with
    | [y0, y1, y2], _ =>
      have h0 := hg 0 _ rfl
      have h1 := hg 1 _ rfl
      have h2 := hg 2 _ rfl
      simp only [nc_i, nc_note, List.drop_zero, List.drop_succ_cons, List.take_succ_cons, List.take_zero, List.getElem?_cons_zero, List.getElem?_cons_succ] at h0 h1 h2
      obtain ⟨x0, e0, _, _⟩ := DataW.trod_int Tryd.underlying3 h0
      obtain ⟨x2, e2, _, _⟩ := DataW.trod_int Tryd.underlying3 h2
      injection e0 with e0 _; injection e2 with e2 _
      subst e0; subst e2
      obtain ⟨nk, nn, nt, nd, nc, ns, ni, nm, nok, ia, il, ic, ja, jl, jc, he, z1, z2, z3, hI, hl, hJ, z4⟩ := note_cells h1 (fun y hy => hz y (by rw [hx]; simp only [DataW.weights, Tryd.underlying50, List.map_cons, List.map_nil, DataW.weightsEach]; simp [hy]))
      injection he with k0 he; injection he with k1 he; injection he with k2 he; injection he with k3 he; injection he with k4 he; injection he with k5 he; injection he with k6 he; injection he with k7 he; injection he with k8 he; injection he with k9 he; injection he with k10 he
      subst k0; subst k1; subst k2; subst k3; subst k4; subst k5; subst k6; subst k7; subst k8; subst k9; subst k10
      refine ⟨⟨x0, nk, nn, nt, nd, nc, ns, ni, nm, nok, ia, il, ic, ja, jl, jc, x2⟩, ⟨?_, fun j v hj => ?_, z1, z2, z3, hI, Nat.le_trans hl (by decide), hJ, z4⟩⟩
      · have a0 := hat 0 (by decide)
        have := World.block_lt_of_cell? w _ a0
        rw [addB, addB] at this; exact this
      · have hj13 : j < 13 := (List.getElem?_eq_some_iff.1 hj).1
        rw [hat j hj13]; exact hj
theorem slice_acts {fuel : Nat} {c : Value} {x : DataW H × List MemPlace} (hf : DataW.trod enc Tryd.prog w base spare held fuel 43 [c] = some x) (hz : ∀ y ∈ x.1.weights Tryd.prog 43, y ≤ RB) :
    ∃ (A : Option Addr) (len cap : Nat) (av : Nat → ActV), c = .slice A len cap ∧ Acts w A len av ∧ len ≤ RB := by
  rcases open_slice Tryd.underlying43 hf with ⟨hcs, _⟩ | ⟨a', len', cap', m, n, D, Pl, hcs, _, hl, hm, hmm, hx, hi⟩
  · injection hcs with hcs _
    exact ⟨none, 0, 0, default, hcs, fun i hi => absurd hi (by omega), by decide⟩
  · injection hcs with hcs _
    have hlm : len' ≤ m := by rw [hmm]; split <;> omega
    have hb : Tryd.prog.bytesOf 50 = 160 := by kernel_rfl
    have h8 := hz _ (by rw [hx]; simp only [DataW.weights, Tryd.underlying43]; exact List.mem_cons_self)
    rw [hb, List.length_map, List.length_range, List.length_map, List.length_range] at h8
    have : ∀ i, ∃ a, i < len' → ActAt w a' i a := fun i => by
      by_cases hil : i < len'
      · obtain ⟨cs', hc, ht⟩ := hi i (by omega)
        rw [nc_act] at hc
        obtain ⟨a, ha⟩ := one_act hc ht (fun y hy => hz y (by
          rw [hx]
          simp only [DataW.weights, Tryd.underlying43]
          refine List.mem_cons_of_mem _ (List.mem_append.2 (.inl (all_mem _ ?_ hy)))
          exact List.mem_map.2 ⟨i, List.mem_range.2 hil, rfl⟩))
        exact ⟨a, fun _ => ha⟩
      · exact ⟨default, fun h => absurd h hil⟩
    exact ⟨some a', len', cap', fun i => (this i).choose, hcs, fun i hil => ⟨a', rfl, (this i).choose_spec hil⟩, by omega⟩
theorem open_acts {r : Reach} {b0 : Nat} {v : Value} {d : DataW H} {ps : List MemPlace} (hv : Value.okWide Tryd.prog w r b0 43 v) (h : DataW.Trod enc Tryd.prog w base spare held 43 v d ps) (hz : ∀ y ∈ d.weights Tryd.prog 43, y ≤ RB) :
    ∃ (A : Option Addr) (len cap : Nat) (av : Nat → ActV), v = .slice A len cap ∧ Acts w A len av ∧ len ≤ RB := by
  obtain ⟨fuel, hf⟩ := h
  obtain ⟨a, len, cap, rfl⟩ := okWide_slice Tryd.underlying43 hv
  exact slice_acts hf hz
end

/-! ### an element, for the machine -/
/-- Names from ahead: the row, an element's place, its note's items and codes; the places of its note and its note's data. -/
def EX (A : Option Addr) (L C : Nat) (ad : Addr) (k : Nat) (a : ActV) : Ext := extL 64 [.slice A L C, .pointer (some (ad.add (k * 13))), .slice a.ia a.il a.ic, .slice a.ja a.jl a.jc, .pointer (some ((ad.add (k * 13)).add 1)), .pointer (some (((ad.add (k * 13)).add 1).add 3))]
theorem EX_in {A : Option Addr} {L C : Nat} {ad : Addr} {k : Nat} {a : ActV} : ∀ n p, EX A L C ad k a n = some p → 64 ≤ n ∧ n < 64 + 16 := fun n p h => by
  have := extL_le h; simp at this; omega
theorem EX_side {A : Option Addr} {L C : Nat} {ad : Addr} {k : Nat} {a : ActV} : ∀ n p, EX A L C ad k a n = some p → (match p.v with | .agg _ | .tuple _ | .bool _ => false | _ => true) = true := fun n p hp => by
  unfold EX extL at hp
  split at hp
  · cases hp
  · rcases hk : n - 64 with _ | _ | _ | _ | _ | _ | j <;> rw [hk] at hp <;> simp at hp <;> subst hp <;> rfl
/-- The row's name alone. -/
def E0 (A : Option Addr) (L C : Nat) : Ext := extL 64 [.slice A L C]
theorem E0_in {A : Option Addr} {L C : Nat} : ∀ n p, E0 A L C n = some p → 64 ≤ n ∧ n < 64 + 16 := fun n p h => by
  have := extL_le h; simp at this; omega
theorem E0_side {A : Option Addr} {L C : Nat} : ∀ n p, E0 A L C n = some p → (match p.v with | .agg _ | .tuple _ | .bool _ => false | _ => true) = true := fun n p hp => by
  unfold E0 extL at hp
  split at hp
  · cases hp
  · rcases hk : n - 64 with _ | j <;> rw [hk] at hp <;> simp at hp <;> subst hp <;> rfl
def actM (a : ActV) : List Value := [.int .i64 a.kd, .int .i64 a.nk, .string a.nn, .string a.nt, .string a.nd, .int .i64 a.nc, .int .i64 a.ns, .int .i64 a.ni, .int .i64 a.nm, .bool a.nok, .chan (some 66), .chan (some 67), .int .i64 a.cd]
def noteM (a : ActV) : List Value := [.int .i64 a.nk, .string a.nn, .string a.nt, .string a.nd, .int .i64 a.nc, .int .i64 a.ns, .int .i64 a.ni, .int .i64 a.nm, .bool a.nok, .chan (some 66), .chan (some 67)]
theorem actM_real {A : Option Addr} {L C : Nat} {ad : Addr} {k : Nat} (a : ActV) : (actM a).map (real (EX A L C ad k a) 5) = a.cells := rfl
theorem noteM_real {A : Option Addr} {L C : Nat} {ad : Addr} {k : Nat} (a : ActV) : ∀ j v, ((noteM a).map (real (EX A L C ad k a) 5))[j]? = some v → a.cells[j + 1]? = some v := fun j v h => by
  match j with
  | 0 | 1 | 2 | 3 | 4 | 5 | 6 | 7 | 8 | 9 | 10 => exact h
  | j + 11 => simp [noteM] at h
theorem add_add (x : Addr) (i j : Nat) : (x.add i).add j = x.add (i + j) := by
  unfold Addr.add
  by_cases hi : i = 0
  · simp [hi]
  · by_cases hj : j = 0
    · simp [hj, hi]
    · simp [hi, hj, Nat.add_assoc]
theorem know_len (A : Option Addr) (L C : Nat) (ext : Ext) (h : ext 64 = some ⟨0, 0, 0, .slice A L C⟩) (w : World) : PureC Tryd.prog (protX w ext) (BIG + (4 * 43 + 2)) #[.chan (some 64), .int .i64 (Int.ofNat 3)] (.int .i64 (L : Int)) :=
  pureLen (A := A) (c := C) Tryd.underlying43 h rfl
variable {w : World} {A : Option Addr} {L C : Nat} {av : Nat → ActV} {ad : Addr} {k : Nat}
theorem info_act : Tryd.prog.info? 50 = some ((Tryd.prog.info? 50).getD default) := by kernel_rfl
theorem info_note : Tryd.prog.info? 37 = some ((Tryd.prog.info? 37).getD default) := by kernel_rfl
theorem size_act : ((Tryd.prog.info? 50).getD default).size = 13 := by kernel_rfl
theorem size_note : ((Tryd.prog.info? 37).getD default).size = 11 := by kernel_rfl
theorem info_str : Tryd.prog.info? 9 = some ((Tryd.prog.info? 9).getD default) := by kernel_rfl
theorem size_str : ((Tryd.prog.info? 9).getD default).size = 1 := by kernel_rfl
theorem know_index (hk : k < L) : PureC Tryd.prog (protX w (EX (some ad) L C ad k (av k))) (BIG + (4 * 43 + 1)) #[.chan (some 64), .int .i64 (k : Int)] (.chan (some 65)) :=
  pureIndex (ad := ad) (p := ⟨0, 0, 0, .slice (some ad) L C⟩) (q := ⟨0, 0, 0, .pointer (some (ad.add (k * 13)))⟩) Tryd.underlying43 info_act rfl rfl hk rfl (by rw [size_act])
theorem know_act (ha : ActAt w ad k (av k)) : PureC Tryd.prog (protX w (EX A L C ad k (av k))) (BIG + (4 * 50 + 0)) #[.chan (some 65)] (.agg ⟨actM (av k)⟩) :=
  pureLoad (ad := ad.add (k * 13)) (p := ⟨0, 0, 0, .pointer (some (ad.add (k * 13)))⟩) Tryd.underlying50 info_act rfl (by rw [size_act]; rfl) rfl rfl (by rw [addB]; exact ha.lt) (fun j v hj => ha.cell j _ (by
    rw [← actM_real (A := A) (L := L) (C := C) (ad := ad) (k := k), List.getElem?_map, hj]; rfl)) rfl EX_side
theorem know_fN : PureC Tryd.prog (protX w (EX A L C ad k (av k))) (BIG + (4 * 50 + 3)) #[.chan (some 65), .int .i64 (Int.ofNat 1)] (.chan (some 68)) :=
  pureField (ad := ad.add (k * 13)) (o := 1) (p := ⟨0, 0, 0, .pointer (some (ad.add (k * 13)))⟩) (q := ⟨0, 0, 0, .pointer (some ((ad.add (k * 13)).add 1))⟩) Tryd.underlying50 rfl info_note (by rw [size_note]; decide) rfl rfl rfl rfl rfl
theorem know_note (ha : ActAt w ad k (av k)) : PureC Tryd.prog (protX w (EX A L C ad k (av k))) (BIG + (4 * 37 + 0)) #[.chan (some 68)] (.agg ⟨noteM (av k)⟩) :=
  pureLoad (ad := (ad.add (k * 13)).add 1) (p := ⟨0, 0, 0, .pointer (some ((ad.add (k * 13)).add 1))⟩) Tryd.underlying37 info_note rfl (by rw [size_note]; rfl) rfl rfl (by rw [addB, addB]; exact ha.lt) (fun j v hj => by
    rw [add_add _ 1 j, Nat.add_comm 1 j]
    exact ha.cell (j + 1) _ (noteM_real (A := A) (L := L) (C := C) (ad := ad) (k := k) (av k) j _ (by rw [List.getElem?_map, hj]; rfl))) rfl EX_side
theorem know_fD : PureC Tryd.prog (protX w (EX A L C ad k (av k))) (BIG + (4 * 37 + 3)) #[.chan (some 68), .int .i64 (Int.ofNat 3)] (.chan (some 69)) :=
  pureField (ad := (ad.add (k * 13)).add 1) (o := 3) (p := ⟨0, 0, 0, .pointer (some ((ad.add (k * 13)).add 1))⟩) (q := ⟨0, 0, 0, .pointer (some (((ad.add (k * 13)).add 1).add 3))⟩) Tryd.underlying37 rfl info_str (by rw [size_str]; decide) rfl rfl rfl rfl rfl
theorem know_data (ha : ActAt w ad k (av k)) : PureC Tryd.prog (protX w (EX A L C ad k (av k))) (BIG + (4 * 9 + 0)) #[.chan (some 69)] (.string (av k).nd) :=
  pureLoad1 (ad := ((ad.add (k * 13)).add 1).add 3) (p := ⟨0, 0, 0, .pointer (some (((ad.add (k * 13)).add 1).add 3))⟩) Tryd.underlying9 rfl rfl rfl (by rw [addB, addB, addB]; exact ha.lt) (by
    rw [add_add _ 1 3]; exact ha.cell 4 _ rfl) rfl
end Go.Proofs.YtpjkbamkaicoiaaDoor.Ses
end
