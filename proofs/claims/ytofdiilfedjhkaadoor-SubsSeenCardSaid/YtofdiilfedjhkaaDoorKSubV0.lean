/- Contracts of functions of this translation, and what they come to; what is not used is left out. -/
import Derived.Test.YtofdiilfedjhkaaDoorKg7p1
import Derived.Test.YtofdiilfedjhkaaDoorKg7p0
import Derived.Test.YtofdiilfedjhkaaDoorKg4
import Derived.Test.YtofdiilfedjhkaaDoorKg6
import Derived.Test.YtofdiilfedjhkaaDoorKBox
import Derived.Test.YtofdiilfedjhkaaDoorKCls
import Derived.Test.YtofdiilfedjhkaaDoorKUtil
import Derived.Test.YtofdiilfedjhkaaDoorKg5

section
/- Rows of wharflaw23.Act as an argument, opened; their elements, for the machine. (Printed by gen_subv0.py.) -/
set_option linter.unusedVariables false
set_option linter.unusedSimpArgs false
set_option maxRecDepth 100000
namespace Go.Proofs.YtofdiilfedjhkaaDoor.SubW
open Go.RowKit U Go.ChangeShapes Go.WideShapes Go.Deep Go.ChangeAt Go.Proofs.YtofdiilfedjhkaaDoor.E Go.Proofs.YtofdiilfedjhkaaDoor.Ses
abbrev Ext := Nat → Option Go.Proofs.YtofdiilfedjhkaaDoor.E.Place
theorem mem_same {w w' : World} (h : ∀ b, b < w.heap.size → w'.heap[b]? = w.heap[b]?) {a : Addr} (ha : a.block < w.heap.size) : w'.cell? a = w.cell? a := by
  unfold World.cell?
  rw [h _ ha]
theorem size_same {w w' : World} (h : ∀ b, b < w.heap.size → w'.heap[b]? = w.heap[b]?) {b : Nat} (hb : b < w.heap.size) : b < w'.heap.size := by
  have := h b hb
  rw [Array.getElem?_eq_getElem hb] at this
  exact (Array.getElem?_eq_some_iff.1 this).1
structure ActV where
  kd : Int
  sS : ByteArray
  sA : ByteArray
  sG : ByteArray
  nk : Int
  nn : ByteArray
  nt : ByteArray
  nd : ByteArray
  nc : Int
  ns : Int
  ni : Int
  nm : Int
  nok : Bool
  ia : Option Addr
  il : Nat
  ic : Nat
  ja : Option Addr
  jl : Nat
  jc : Nat
  wk : Int
  wn : ByteArray
  wa : ByteArray
  wg : ByteArray
  wb : Bool
  dc : Int
  xn : ByteArray
  xg : Int
  xi : Int
  xt : Int
  xa : ByteArray
  xb : Bool
deriving Inhabited
def ActV.cells (a : ActV) : List Value := [.int .i64 a.kd, .string a.sS, .string a.sA, .string a.sG, .int .i64 a.nk, .string a.nn, .string a.nt, .string a.nd, .int .i64 a.nc, .int .i64 a.ns, .int .i64 a.ni, .int .i64 a.nm, .bool a.nok, .slice a.ia a.il a.ic, .slice a.ja a.jl a.jc, .int .i64 a.wk, .string a.wn, .string a.wa, .string a.wg, .bool a.wb, .int .i64 a.dc, .string a.xn, .int .i64 a.xg, .int .i64 a.xi, .int .i64 a.xt, .string a.xa, .bool a.xb]
def actM (a : ActV) : List Value := [.int .i64 a.kd, .string a.sS, .string a.sA, .string a.sG, .int .i64 a.nk, .string a.nn, .string a.nt, .string a.nd, .int .i64 a.nc, .int .i64 a.ns, .int .i64 a.ni, .int .i64 a.nm, .bool a.nok, .chan (some 66), .chan (some 67), .int .i64 a.wk, .string a.wn, .string a.wa, .string a.wg, .bool a.wb, .int .i64 a.dc, .string a.xn, .int .i64 a.xg, .int .i64 a.xi, .int .i64 a.xt, .string a.xa, .bool a.xb]
structure ActAt (w : World) (ad : Addr) (i : Nat) (a : ActV) : Prop where
  lt : ad.block < w.heap.size
  cell : ∀ j v, a.cells[j]? = some v → w.cell? ((ad.add (i * 27)).add j) = some v
  zS : a.sS.size ≤ RB
  zA : a.sA.size ≤ RB
  zG : a.sG.size ≤ RB
  zn : a.nn.size ≤ RB
  zw : a.wn.size ≤ RB
  zx : a.xn.size ≤ RB
theorem ActAt.same {w w' : World} (h : ∀ b, b < w.heap.size → w'.heap[b]? = w.heap[b]?) {ad : Addr} {i : Nat} {a : ActV} (ha : ActAt w ad i a) : ActAt w' ad i a :=
  ⟨size_same h ha.lt, fun j v hj => (mem_same h (by rw [addB, addB]; exact ha.lt)).trans (ha.cell j v hj), ha.zS, ha.zA, ha.zG, ha.zn, ha.zw, ha.zx⟩
def Acts (w : World) (A : Option Addr) (n : Nat) (av : Nat → ActV) : Prop := ∀ i, i < n → ∃ ad, A = some ad ∧ ActAt w ad i (av i)
theorem Acts.same {w w' : World} (h : ∀ b, b < w.heap.size → w'.heap[b]? = w.heap[b]?) {A : Option Addr} {n : Nat} {av : Nat → ActV} (ha : Acts w A n av) : Acts w' A n av := fun i hi => by
  obtain ⟨ad, e, x⟩ := ha i hi
  exact ⟨ad, e, x.same h⟩
section
variable {H : Type} {enc : TypeId × Value → H} {w : World} {base : Nat} {spare : Nat → Bool} {held : Bool}
theorem nc_actw : Tryd.prog.cellsOf 54 = 27 := by kernel_rfl
theorem nc_deal : Tryd.prog.cellsOf 45 = 6 := by kernel_rfl
theorem nc_wish : Tryd.prog.cellsOf 42 = 5 := by kernel_rfl
theorem one_act {n : Nat} {ad : Addr} {i : Nat} {cs : List Value} {x : DataW H × List MemPlace} (hc : w.cells? base (ad.add (i * 27)) 27 = some cs) (hf : DataW.trod enc Tryd.prog w base spare held n 54 cs = some x) (hz : ∀ y ∈ x.1.weights Tryd.prog 54, y ≤ RB) : ∃ a, ActAt w ad i a := by
  obtain ⟨_, hcl, hat⟩ := World.cells?_some hc
  match cs, hcl with
  | [c0, c1, c2, c3, c4, c5, c6, c7, c8, c9, c10, c11, c12, c13, c14, c15, c16, c17, c18, c19, c20, c21, c22, c23, c24, c25, c26], _ =>
    obtain ⟨ys, n', _, hx0, _, hyl, hg⟩ := DataW.trod_struct Tryd.underlying54 hf
    have hx := congrArg Prod.fst hx0
    dsimp only at hx
    match ys, hyl with
    | [y0, y1, y2, y3, y4, y5, y6], _ =>
      have h0 := hg 0 _ rfl
      have h1 := hg 1 _ rfl
      have h2 := hg 2 _ rfl
      have h3 := hg 3 _ rfl
      have h4 := hg 4 _ rfl
      have h5 := hg 5 _ rfl
      have h6 := hg 6 _ rfl
      simp only [nc_i, nc_s, nc_note, nc_deal, nc_item, List.drop_zero, List.drop_succ_cons, List.take_succ_cons, List.take_zero, List.getElem?_cons_zero, List.getElem?_cons_succ] at h0 h1 h2 h3 h4 h5 h6
      obtain ⟨x0, e0, _, _⟩ := DataW.trod_int Tryd.underlying3 h0
      obtain ⟨x1, e1, g1, _⟩ := DataW.trod_string Tryd.underlying9 h1
      obtain ⟨x2, e2, g2, _⟩ := DataW.trod_string Tryd.underlying9 h2
      obtain ⟨x3, e3, g3, _⟩ := DataW.trod_string Tryd.underlying9 h3
      obtain ⟨nk, nn, nt, nd, nc, ns, ni, nm, nok, ia, il, ic, ja, jl, jc, he, z1, z2, z3, hI, hl, hJ, z4⟩ := note_cells h4 (fun y hy => hz y (by rw [hx]; simp only [DataW.weights, Tryd.underlying54, List.map_cons, List.map_nil, DataW.weightsEach]; simp [hy]))
      injection he with k0 he; injection he with k1 he; injection he with k2 he; injection he with k3 he; injection he with k4 he; injection he with k5 he; injection he with k6 he; injection he with k7 he; injection he with k8 he; injection he with k9 he; injection he with k10 he
      obtain ⟨yd, nd', _, hd0, _, hydl, hgd⟩ := DataW.trod_struct Tryd.underlying45 h5
      have hd := congrArg Prod.fst hd0
      dsimp only at hd
      match yd, hydl with
      | [d0, d1], _ =>
        have p0 := hgd 0 _ rfl
        have p1 := hgd 1 _ rfl
        simp only [nc_i, nc_wish, List.drop_zero, List.drop_succ_cons, List.take_succ_cons, List.take_zero, List.getElem?_cons_zero, List.getElem?_cons_succ] at p0 p1
        obtain ⟨x20, e20, _, _⟩ := DataW.trod_int Tryd.underlying3 p1
        obtain ⟨yw, nw', _, hw0, _, hywl, hgw⟩ := DataW.trod_struct Tryd.underlying42 p0
        have hw := congrArg Prod.fst hw0
        dsimp only at hw
        match yw, hywl with
        | [w0, w1, w2, w3, w4], _ =>
          have q0 := hgw 0 _ rfl
          have q1 := hgw 1 _ rfl
          have q2 := hgw 2 _ rfl
          have q3 := hgw 3 _ rfl
          have q4 := hgw 4 _ rfl
          simp only [nc_i, nc_s, nc_b, List.drop_zero, List.drop_succ_cons, List.take_succ_cons, List.take_zero, List.getElem?_cons_zero, List.getElem?_cons_succ] at q0 q1 q2 q3 q4
          obtain ⟨x15, e15, _, _⟩ := DataW.trod_int Tryd.underlying3 q0
          obtain ⟨x16, e16, g16, _⟩ := DataW.trod_string Tryd.underlying9 q1
          obtain ⟨x17, e17, g17, _⟩ := DataW.trod_string Tryd.underlying9 q2
          obtain ⟨x18, e18, g18, _⟩ := DataW.trod_string Tryd.underlying9 q3
          obtain ⟨x19, e19, _⟩ := DataW.trod_bool Tryd.underlying4 q4
          obtain ⟨yi, ni', _, hi0, _, hyil, hgi⟩ := DataW.trod_struct Tryd.underlying52 h6
          have hi := congrArg Prod.fst hi0
          dsimp only at hi
          match yi, hyil with
          | [i0, i1, i2, i3, i4, i5], _ =>
            have r0 := hgi 0 _ rfl
            have r1 := hgi 1 _ rfl
            have r2 := hgi 2 _ rfl
            have r3 := hgi 3 _ rfl
            have r4 := hgi 4 _ rfl
            have r5 := hgi 5 _ rfl
            simp only [nc_i, nc_s, nc_b, List.drop_zero, List.drop_succ_cons, List.take_succ_cons, List.take_zero, List.getElem?_cons_zero, List.getElem?_cons_succ] at r0 r1 r2 r3 r4 r5
            obtain ⟨x21, e21, g21, _⟩ := DataW.trod_string Tryd.underlying9 r0
            obtain ⟨x22, e22, _, _⟩ := DataW.trod_int Tryd.underlying3 r1
            obtain ⟨x23, e23, _, _⟩ := DataW.trod_int Tryd.underlying3 r2
            obtain ⟨x24, e24, _, _⟩ := DataW.trod_int Tryd.underlying3 r3
            obtain ⟨x25, e25, g25, _⟩ := DataW.trod_string Tryd.underlying9 r4
            obtain ⟨x26, e26, _⟩ := DataW.trod_bool Tryd.underlying4 r5
            injection e0 with e0 _
            injection e1 with e1 _
            injection e2 with e2 _
            injection e3 with e3 _
            injection e20 with e20 _
            injection e15 with e15 _
            injection e16 with e16 _
            injection e17 with e17 _
            injection e18 with e18 _
            injection e19 with e19 _
            injection e21 with e21 _
            injection e22 with e22 _
            injection e23 with e23 _
            injection e24 with e24 _
            injection e25 with e25 _
            injection e26 with e26 _
            subst e0
            subst e1
            subst e2
            subst e3
            subst e20
            subst e15
            subst e16
            subst e17
            subst e18
            subst e19
            subst e21
            subst e22
            subst e23
            subst e24
            subst e25
            subst e26
            subst k0; subst k1; subst k2; subst k3; subst k4; subst k5; subst k6; subst k7; subst k8; subst k9; subst k10
            subst g1; subst g2; subst g3; subst g16; subst g17; subst g18; subst g21; subst g25
            have zz : ∀ s ∈ [x1, x2, x3, x16, x21], s.size ≤ RB := fun s hs => by
              rw [← U.len_data]
              refine hz _ ?_
              rw [hx]
              simp only [DataW.weights, Tryd.underlying54, List.map_cons, List.map_nil, DataW.weightsEach]
              rw [hd, hi]
              simp only [DataW.weights, Tryd.underlying45, Tryd.underlying52, List.map_cons, List.map_nil, DataW.weightsEach]
              rw [hw]
              simp only [DataW.weights, Tryd.underlying42, List.map_cons, List.map_nil, DataW.weightsEach]
              simp only [List.mem_cons, List.not_mem_nil, or_false] at hs
              rcases hs with rfl | rfl | rfl | rfl | rfl <;> simp
            refine ⟨⟨x0, x1, x2, x3, nk, nn, nt, nd, nc, ns, ni, nm, nok, ia, il, ic, ja, jl, jc, x15, x16, x17, x18, x19, x20, x21, x22, x23, x24, x25, x26⟩, ⟨?_, fun j v hj => ?_, zz _ (by simp), zz _ (by simp), zz _ (by simp), z1, zz _ (by simp), zz _ (by simp)⟩⟩
            · have a0 := hat 0 (by decide)
              have := World.block_lt_of_cell? w _ a0
              rw [addB, addB] at this; exact this
            · have hj27 : j < 27 := (List.getElem?_eq_some_iff.1 hj).1
              rw [hat j hj27]; exact hj
theorem slice_acts {fuel : Nat} {c : Value} {x : DataW H × List MemPlace} (hf : DataW.trod enc Tryd.prog w base spare held fuel 48 [c] = some x) (hz : ∀ y ∈ x.1.weights Tryd.prog 48, y ≤ RB) :
    ∃ (A : Option Addr) (len cap : Nat) (av : Nat → ActV), c = .slice A len cap ∧ Acts w A len av ∧ len ≤ RB := by
  rcases open_slice Tryd.underlying48 hf with ⟨hcs, _⟩ | ⟨a', len', cap', m, n, D, Pl, hcs, _, hl, hm, hmm, hx, hi⟩
  · injection hcs with hcs _
    exact ⟨none, 0, 0, default, hcs, fun i hi => absurd hi (by omega), by decide⟩
  · injection hcs with hcs _
    have hlm : len' ≤ m := by rw [hmm]; split <;> omega
    have hb : ∃ b, Tryd.prog.bytesOf 54 = b + 1 := ⟨Tryd.prog.bytesOf 54 - 1, by kernel_rfl⟩
    obtain ⟨b, hb⟩ := hb
    have h8 := hz _ (by rw [hx]; simp only [DataW.weights, Tryd.underlying48]; exact List.mem_cons_self)
    rw [hb, List.length_map, List.length_range, List.length_map, List.length_range, Nat.mul_succ] at h8
    have : ∀ i, ∃ a, i < len' → ActAt w a' i a := fun i => by
      by_cases hil : i < len'
      · obtain ⟨cs', hc, ht⟩ := hi i (by omega)
        rw [nc_actw] at hc
        obtain ⟨a, ha⟩ := one_act hc ht (fun y hy => hz y (by
          rw [hx]
          simp only [DataW.weights, Tryd.underlying48]
          refine List.mem_cons_of_mem _ (List.mem_append.2 (.inl (all_mem _ ?_ hy)))
          exact List.mem_map.2 ⟨i, List.mem_range.2 hil, rfl⟩))
        exact ⟨a, fun _ => ha⟩
      · exact ⟨default, fun h => absurd h hil⟩
    exact ⟨some a', len', cap', fun i => (this i).choose, hcs, fun i hil => ⟨a', rfl, (this i).choose_spec hil⟩, Nat.le_trans (by omega) h8⟩
theorem open_acts {r : Reach} {b0 : Nat} {v : Value} {d : DataW H} {ps : List MemPlace} (hv : Value.okWide Tryd.prog w r b0 48 v) (h : DataW.Trod enc Tryd.prog w base spare held 48 v d ps) (hz : ∀ y ∈ d.weights Tryd.prog 48, y ≤ RB) :
    ∃ (A : Option Addr) (len cap : Nat) (av : Nat → ActV), v = .slice A len cap ∧ Acts w A len av ∧ len ≤ RB := by
  obtain ⟨fuel, hf⟩ := h
  obtain ⟨a, len, cap, rfl⟩ := okWide_slice Tryd.underlying48 hv
  exact slice_acts hf hz
end

/-! ### an element, for the machine -/
/-- Names from ahead: the row, an element's place, its note's items and codes; the places of its kind, its item, its item's last field. -/
def EX (A : Option Addr) (L C : Nat) (ad : Addr) (k : Nat) (a : ActV) : Ext := extL 64 [.slice A L C, .pointer (some (ad.add (k * 27))), .slice a.ia a.il a.ic, .slice a.ja a.jl a.jc, .pointer (some ((ad.add (k * 27)).add 0)), .pointer (some ((ad.add (k * 27)).add 21)), .pointer (some (((ad.add (k * 27)).add 21).add 5))]
theorem EX_in {A : Option Addr} {L C : Nat} {ad : Addr} {k : Nat} {a : ActV} : ∀ n p, EX A L C ad k a n = some p → 64 ≤ n ∧ n < 64 + 16 := fun n p h => by
  have := extL_le h; simp at this; omega
theorem EX_side {A : Option Addr} {L C : Nat} {ad : Addr} {k : Nat} {a : ActV} : ∀ n p, EX A L C ad k a n = some p → (match p.v with | .agg _ | .tuple _ | .bool _ => false | _ => true) = true := fun n p hp => by
  unfold EX extL at hp
  split at hp
  · cases hp
  · rcases hk : n - 64 with _ | _ | _ | _ | _ | _ | _ | j <;> rw [hk] at hp <;> simp at hp <;> subst hp <;> rfl
def E0 (A : Option Addr) (L C : Nat) : Ext := extL 64 [.slice A L C]
theorem E0_in {A : Option Addr} {L C : Nat} : ∀ n p, E0 A L C n = some p → 64 ≤ n ∧ n < 64 + 16 := fun n p h => by
  have := extL_le h; simp at this; omega
theorem E0_side {A : Option Addr} {L C : Nat} : ∀ n p, E0 A L C n = some p → (match p.v with | .agg _ | .tuple _ | .bool _ => false | _ => true) = true := fun n p hp => by
  unfold E0 extL at hp
  split at hp
  · cases hp
  · rcases hk : n - 64 with _ | j <;> rw [hk] at hp <;> simp at hp <;> subst hp <;> rfl
theorem actM_real {A : Option Addr} {L C : Nat} {ad : Addr} {k : Nat} (a : ActV) : (actM a).map (real (EX A L C ad k a) 5) = a.cells := rfl
theorem add_add (x : Addr) (i j : Nat) : (x.add i).add j = x.add (i + j) := by
  unfold Addr.add
  by_cases hi : i = 0
  · simp [hi]
  · by_cases hj : j = 0
    · simp [hj, hi]
    · simp [hi, hj, Nat.add_assoc]
theorem know_len (A : Option Addr) (L C : Nat) (ext : Ext) (h : ext 64 = some ⟨0, 0, 0, .slice A L C⟩) (w : World) : PureC Tryd.prog (protX w ext) (BIG + (4 * 48 + 2)) #[.chan (some 64), .int .i64 (Int.ofNat 3)] (.int .i64 (L : Int)) :=
  pureLen (A := A) (c := C) Tryd.underlying48 h rfl
variable {w : World} {A : Option Addr} {L C : Nat} {av : Nat → ActV} {ad : Addr} {k : Nat}
theorem info_act : Tryd.prog.info? 54 = some ((Tryd.prog.info? 54).getD default) := by kernel_rfl
theorem info_item : Tryd.prog.info? 52 = some ((Tryd.prog.info? 52).getD default) := by kernel_rfl
theorem size_act : ((Tryd.prog.info? 54).getD default).size = 27 := by kernel_rfl
theorem size_item : ((Tryd.prog.info? 52).getD default).size = 6 := by kernel_rfl
theorem info_int : Tryd.prog.info? 3 = some ((Tryd.prog.info? 3).getD default) := by kernel_rfl
theorem size_int : ((Tryd.prog.info? 3).getD default).size = 1 := by kernel_rfl
theorem info_bool : Tryd.prog.info? 4 = some ((Tryd.prog.info? 4).getD default) := by kernel_rfl
theorem size_bool : ((Tryd.prog.info? 4).getD default).size = 1 := by kernel_rfl
theorem know_index (hk : k < L) : PureC Tryd.prog (protX w (EX (some ad) L C ad k (av k))) (BIG + (4 * 48 + 1)) #[.chan (some 64), .int .i64 (k : Int)] (.chan (some 65)) :=
  pureIndex (ad := ad) (p := ⟨0, 0, 0, .slice (some ad) L C⟩) (q := ⟨0, 0, 0, .pointer (some (ad.add (k * 27)))⟩) Tryd.underlying48 info_act rfl rfl hk rfl (by rw [size_act])
theorem know_act (ha : ActAt w ad k (av k)) : PureC Tryd.prog (protX w (EX A L C ad k (av k))) (BIG + (4 * 54 + 0)) #[.chan (some 65)] (.agg ⟨actM (av k)⟩) :=
  pureLoad (ad := ad.add (k * 27)) (p := ⟨0, 0, 0, .pointer (some (ad.add (k * 27)))⟩) Tryd.underlying54 info_act rfl (by rw [size_act]; rfl) rfl rfl (by rw [addB]; exact ha.lt) (fun j v hj => ha.cell j _ (by
    rw [← actM_real (A := A) (L := L) (C := C) (ad := ad) (k := k), List.getElem?_map, hj]; rfl)) rfl EX_side
theorem know_fK : PureC Tryd.prog (protX w (EX A L C ad k (av k))) (BIG + (4 * 54 + 3)) #[.chan (some 65), .int .i64 (Int.ofNat 0)] (.chan (some 68)) :=
  pureField (ad := ad.add (k * 27)) (o := 0) (p := ⟨0, 0, 0, .pointer (some (ad.add (k * 27)))⟩) (q := ⟨0, 0, 0, .pointer (some ((ad.add (k * 27)).add 0))⟩) Tryd.underlying54 rfl info_int (by rw [size_int]; decide) rfl rfl rfl rfl rfl
theorem know_fX : PureC Tryd.prog (protX w (EX A L C ad k (av k))) (BIG + (4 * 54 + 3)) #[.chan (some 65), .int .i64 (Int.ofNat 6)] (.chan (some 69)) :=
  pureField (ad := ad.add (k * 27)) (o := 21) (p := ⟨0, 0, 0, .pointer (some (ad.add (k * 27)))⟩) (q := ⟨0, 0, 0, .pointer (some ((ad.add (k * 27)).add 21))⟩) Tryd.underlying54 rfl info_item (by rw [size_item]; decide) rfl rfl rfl rfl rfl
theorem know_fA : PureC Tryd.prog (protX w (EX A L C ad k (av k))) (BIG + (4 * 52 + 3)) #[.chan (some 69), .int .i64 (Int.ofNat 5)] (.chan (some 70)) :=
  pureField (ad := (ad.add (k * 27)).add 21) (o := 5) (p := ⟨0, 0, 0, .pointer (some ((ad.add (k * 27)).add 21))⟩) (q := ⟨0, 0, 0, .pointer (some (((ad.add (k * 27)).add 21).add 5))⟩) Tryd.underlying52 rfl info_bool (by rw [size_bool]; decide) rfl rfl rfl rfl rfl
theorem know_kind (ha : ActAt w ad k (av k)) : PureC Tryd.prog (protX w (EX A L C ad k (av k))) (BIG + (4 * 3 + 0)) #[.chan (some 68)] (.int .i64 (av k).kd) :=
  pureLoad1 (ad := (ad.add (k * 27)).add 0) (p := ⟨0, 0, 0, .pointer (some ((ad.add (k * 27)).add 0))⟩) Tryd.underlying3 rfl rfl rfl (by rw [addB, addB]; exact ha.lt) (ha.cell 0 _ rfl) rfl
theorem know_await (ha : ActAt w ad k (av k)) : PureC Tryd.prog (protX w (EX A L C ad k (av k))) (BIG + (4 * 4 + 0)) #[.chan (some 70)] (.bool (av k).xb) :=
  pureLoad1 (ad := ((ad.add (k * 27)).add 21).add 5) (p := ⟨0, 0, 0, .pointer (some (((ad.add (k * 27)).add 21).add 5))⟩) Tryd.underlying4 rfl rfl rfl (by rw [addB, addB, addB]; exact ha.lt) (by
    rw [add_add _ 21 5]; exact ha.cell 26 _ rfl) rfl
end Go.Proofs.YtofdiilfedjhkaaDoor.SubW
end
