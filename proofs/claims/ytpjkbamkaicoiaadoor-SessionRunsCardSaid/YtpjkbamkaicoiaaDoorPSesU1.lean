/- Contracts of functions of this translation, and what they come to; what is not used is left out. -/
import Derived.Test.YtpjkbamkaicoiaaDoorPg7p1
import Derived.Test.YtpjkbamkaicoiaaDoorPg7p0
import Derived.Test.YtpjkbamkaicoiaaDoorPSesU0
import Derived.Test.YtpjkbamkaicoiaaDoorPSesTa
import Derived.Test.YtpjkbamkaicoiaaDoorPSesT0
import Derived.Test.YtpjkbamkaicoiaaDoorPSesE1
import Derived.Test.YtpjkbamkaicoiaaDoorPSesE0
import Derived.Test.YtpjkbamkaicoiaaDoorPg1
import Derived.Test.YtpjkbamkaicoiaaDoorPg5
import Derived.Test.YtpjkbamkaicoiaaDoorPCls
import Derived.Test.YtpjkbamkaicoiaaDoorPUtil
import Derived.Test.YtpjkbamkaicoiaaDoorPSoft
import Derived.Test.YtpjkbamkaicoiaaDoorPHanS
import Derived.Test.YtpjkbamkaicoiaaDoorPHanR
import Derived.Test.YtpjkbamkaicoiaaDoorPHanQ
import Derived.Test.YtpjkbamkaicoiaaDoorPRaQ
import Derived.Test.YtpjkbamkaicoiaaDoorPRefJ
import Derived.Test.YtpjkbamkaicoiaaDoorPRefF
import Derived.Test.YtpjkbamkaicoiaaDoorPGlyA
import Derived.Test.YtpjkbamkaicoiaaDoorPGlyP
import Derived.Test.YtpjkbamkaicoiaaDoorPJidP
import Derived.Test.YtpjkbamkaicoiaaDoorPStrs
import Derived.Test.YtpjkbamkaicoiaaDoorPShelf
import Derived.Test.YtpjkbamkaicoiaaDoorPRaP
import Derived.Test.YtpjkbamkaicoiaaDoorPRa2
import Derived.Test.YtpjkbamkaicoiaaDoorPRa1
import Derived.Test.YtpjkbamkaicoiaaDoorPRa0
import Derived.Test.YtpjkbamkaicoiaaDoorPg0
import Derived.Test.YtpjkbamkaicoiaaDoorPHanP
import Derived.Test.YtpjkbamkaicoiaaDoorPEscB
import Derived.Test.YtpjkbamkaicoiaaDoorPEscA
import Derived.Test.YtpjkbamkaicoiaaDoorPEscP
import Derived.Test.YtpjkbamkaicoiaaDoorPBld
import Derived.Test.YtpjkbamkaicoiaaDoorPHanA
import Derived.Test.YtpjkbamkaicoiaaDoorPRep
import Derived.Test.YtpjkbamkaicoiaaDoorPRc3
import Derived.Test.YtpjkbamkaicoiaaDoorPRc2
import Derived.Test.YtpjkbamkaicoiaaDoorPRc1
import Derived.Test.YtpjkbamkaicoiaaDoorPRc0
import Derived.Test.YtpjkbamkaicoiaaDoorPHanF
import Derived.Test.YtpjkbamkaicoiaaDoorPg4
import Derived.Test.YtpjkbamkaicoiaaDoorPg6
import Derived.Test.YtpjkbamkaicoiaaDoorPBox
import Derived.Test.YtpjkbamkaicoiaaDoorPg3

section
/- wharflaw15.small: its number, and what it tells of each act. (Printed by gen_sesu1.py.) -/
set_option linter.unusedVariables false
set_option linter.unusedSimpArgs false
set_option maxRecDepth 100000
namespace Go.Proofs.YtpjkbamkaicoiaaDoor.Ses
open Go.RowKit Go.Proofs.YtpjkbamkaicoiaaDoor.E
/-- Weight's number of an act's note. -/
structure Wts (w : World) (A : Option Addr) (n : Nat) (av : Nat → ActV) (wt : Nat → Int) : Prop where
  ge : ∀ i, i < n → ((av i).nn.size : Int) + ((av i).nt.size : Int) + ((av i).nd.size : Int) + ((av i).jl : Int) ≤ wt i
  le : ∀ i, i < n → wt i ≤ 1000000000000000000
  call : ∀ i, i < n → ∀ w', (∀ b, b < w.heap.size → w'.heap[b]? = w.heap[b]?) → Calls Tryd.prog 12 #[.agg (NCL (av i).nk (av i).nn (av i).nt (av i).nd (av i).nc (av i).ns (av i).ni (av i).nm (av i).nok (av i).ia (av i).il (av i).ic (av i).ja (av i).jl (av i).jc), .int .i64 12000] w' fun e w'' => e = .returned (.int .i64 (wt i)) ∧ Below w'.heap.size w' w''
theorem Acts.wts {w : World} {A : Option Addr} {n : Nat} {av : Nat → ActV} (h : Acts w A n av) : ∃ wt, Wts w A n av wt := by
  have : ∀ i, ∃ x : Int, i < n → (((av i).nn.size : Int) + ((av i).nt.size : Int) + ((av i).nd.size : Int) + ((av i).jl : Int) ≤ x) ∧ x ≤ 1000000000000000000 ∧ ∀ w', (∀ b, b < w.heap.size → w'.heap[b]? = w.heap[b]?) → Calls Tryd.prog 12 #[.agg (NCL (av i).nk (av i).nn (av i).nt (av i).nd (av i).nc (av i).ns (av i).ni (av i).nm (av i).nok (av i).ia (av i).il (av i).ic (av i).ja (av i).jl (av i).jc), .int .i64 12000] w' fun e w'' => e = .returned (.int .i64 x) ∧ Below w'.heap.size w' w'' := fun i => by
    by_cases hi : i < n
    · obtain ⟨ad, _, ha⟩ := h i hi
      obtain ⟨it, hit⟩ := ha.hI.items.are
      have zz : ∀ j, j < (av i).il → (it j).1.size ≤ RB ∧ (it j).2.size ≤ RB := fun j hj => by
        obtain ⟨_, _, _, a, b⟩ := hit j hj
        exact ⟨a, b⟩
      have z1 := ha.z1
      have z2 := ha.z2
      have z3 := ha.z3
      have z4 := ha.z4
      refine ⟨wl it 12000 (av i).il 0 (((av i).nn.size : Int) + ((av i).nt.size : Int) + ((av i).nd.size : Int) + ((av i).jl : Int)), fun _ => ⟨wl_ge it 12000 _ _ _, ?_, fun w' hw => ?_⟩⟩
      · unfold RB at z1 z2 z3 z4
        exact wl_le it 12000 (by omega) (av i).il zz _ _ _ (by omega) (by omega)
      · exact (Weight_is _ _ _ _ _ _ _ _ _ _ _ _ _ _ _ 12000 it w' (hit.same hw) ha.hl z1 z2 z3 z4 (by omega)).mono fun e w'' h => ⟨h.1, h.2.low⟩
    · exact ⟨0, fun h => absurd h hi⟩
  exact ⟨fun i => (this i).choose, fun i hi => ((this i).choose_spec hi).1, fun i hi => ((this i).choose_spec hi).2.1, fun i hi => ((this i).choose_spec hi).2.2⟩
/-- small's rounds: j left, at k. -/
def sml (wt : Nat → Int) : Nat → Nat → Int → Int
  | 0, _, acc => acc
  | j + 1, k, acc => if (k : Int) ≤ 150 ∧ acc ≤ 12000 then sml wt j (k + 1) (acc + wt k) else acc
def smallV (wt : Nat → Int) (L : Nat) : Bool := decide ((L : Int) ≤ 150) && decide (sml wt L 0 0 ≤ 12000)
theorem sml_ge (wt : Nat → Int) : ∀ (j k : Nat) (acc : Int), (∀ i, i < k + j → 0 ≤ wt i) → acc ≤ sml wt j k acc
  | 0, _, acc, _ => Int.le_refl _
  | j + 1, k, acc, h => by
    unfold sml
    split
    · have := sml_ge wt j (k + 1) (acc + wt k) (fun i hi => h i (by omega))
      have := h k (by omega)
      omega
    · exact Int.le_refl _
theorem sml_each (wt : Nat → Int) : ∀ (j k : Nat) (acc : Int), (∀ i, i < k + j → 0 ≤ wt i) → 0 ≤ acc → k + j ≤ 150 → sml wt j k acc ≤ 12000 → ∀ i, k ≤ i → i < k + j → wt i ≤ 12000
  | 0, k, acc, _, _, _, _ => fun i h1 h2 => absurd h2 (by omega)
  | j + 1, k, acc, h, h0, hk, hs => fun i h1 h2 => by
    unfold sml at hs
    split at hs
    · have hw := h k (by omega)
      by_cases e : i = k
      · subst e
        have := sml_ge wt j (i + 1) (acc + wt i) (fun x hx => h x (by omega))
        omega
      · exact sml_each wt j (k + 1) (acc + wt k) (fun x hx => h x (by omega)) (by omega) (by omega) hs i (by omega) (by omega)
    · rename_i hn
      exact absurd ⟨by omega, by omega⟩ hn
theorem small_each {w : World} {A : Option Addr} {L : Nat} {av : Nat → ActV} {wt : Nat → Int} (h : Wts w A L av wt) (hs : smallV wt L = true) : ∀ i, i < L → (av i).nn.size ≤ 12000 ∧ (av i).nd.size ≤ 12000 := fun i hi => by
  unfold smallV at hs
  simp only [Bool.and_eq_true, decide_eq_true_eq] at hs
  have h0 : ∀ j, j < 0 + L → 0 ≤ wt j := fun j hj => by have := h.ge j (by omega); omega
  have := sml_each wt L 0 0 h0 (by omega) (by omega) hs.2 i (by omega) (by omega)
  have := h.ge i hi
  omega
noncomputable def smallC : Code := (Tryd.f14.body).getD .skip
noncomputable def smallR : Code := subC [true, true, false, true, false, false] smallC
noncomputable def smallP : Code := subC [true, true, true] smallC
theorem smallB : Tryd.f14.body = some smallC := by kernel_rfl
theorem smallM : midC [true, true, false, true] smallC = .block 0 (.loop smallR) := by kernel_rfl
theorem smallPo (P : Program) (Q : Exit → Act → World → Prop) : wpPost P [true, true, false, true] smallC Q = fun a w => smallP.wp P Q a w := by kernel_rfl
theorem small_yes {A : Option Addr} {L C : Nat} {ad : Addr} {k : Nat} {av : Nat → ActV} {wt : Nat → Int} {w0 w : World} {a : Act} (acc : Int) (hk : k < L) (hA : A = some ad) (ha : ActAt w0 ad k (av k)) (hw : Wts w0 A L av wt)
    (hA1 : AtM Tryd.prog 64 16 34 (EX A L C ad k (av k)) [(0, .chan (some 64)), (3, .int .i64 acc), (4, .int .i64 (k : Int))] .leaf w0 a w) {M : Act → World → Prop} {Q : Exit → Act → World → Prop}
    (hN : ∀ a' w', (k : Int) ≤ 150 → acc ≤ 12000 → AtM Tryd.prog 64 16 34 (EX A L C ad k (av k)) [(0, .chan (some 64)), (3, .int .i64 (IntKind.wrap IntKind.i64 (acc + wt k))), (4, .int .i64 (IntKind.wrap IntKind.i64 ((k : Int) + 1)))] (heapL []) w0 a' w' → M a' w')
    (hE : ∀ a' w', ¬ ((k : Int) ≤ 150 ∧ acc ≤ 12000) → AtM Tryd.prog 64 16 34 (EX A L C ad k (av k)) [(0, .chan (some 64)), (3, .int .i64 acc), (4, .int .i64 (k : Int))] (heapL []) w0 a' w' → Q (.exit 0) a' w') : wpMid Tryd.prog [true] (.seq smallR .skip) M Q a w := by
    subst hA
    have klen : ∀ Fr, Fr = protX w0 (EX (some ad) L C ad k (av k)) → _ := fun Fr hF => hF ▸ know_len (some ad) L C (EX (some ad) L C ad k (av k)) rfl w0
    have kidx : ∀ Fr, Fr = protX w0 (EX (some ad) L C ad k (av k)) → _ := fun Fr hF => hF ▸ know_index (w := w0) (C := C) (av := av) hk
    have kfN : ∀ Fr, Fr = protX w0 (EX (some ad) L C ad k (av k)) → _ := fun Fr hF => hF ▸ know_fN (w := w0) (A := some ad) (L := L) (C := C) (av := av) (ad := ad) (k := k)
    have knote : ∀ Fr, Fr = protX w0 (EX (some ad) L C ad k (av k)) → _ := fun Fr hF => hF ▸ know_note (A := some ad) (L := L) (C := C) ha
    have kwt : ∀ Fr, Fr = protX w0 (EX (some ad) L C ad k (av k)) → PureC Tryd.prog Fr 12 #[.agg ⟨noteM (av k)⟩, .int .i64 12000] (.int .i64 (wt k)) := fun Fr hF => by
      subst hF
      exact pureX (fun w' hw' => hw.call k hk w' hw') rfl (by rfl)
    have hc0 : (decide ((k : Int) < (L : Int))) = true := decide_eq_true (by omega)
    rcases Bool.eq_false_or_eq_true (decide ((k : Int) ≤ (150 : Int))) with hc1 | hc1
    · rcases Bool.eq_false_or_eq_true (decide (acc ≤ (12000 : Int))) with hc2 | hc2
      · exact wp_segB (P := Tryd.prog) (st := false) (K := KP) mixed KP_ok (G := 64) (X := 16) (cf := 100000) (n := 60) (N := 34) (x := Ex.normal) (out := [0, 3, 4]) (vs := [Value.chan (some 64), Value.int IntKind.i64 (IntKind.wrap IntKind.i64 (acc + (wt k))), Value.int IntKind.i64 (IntKind.wrap IntKind.i64 ((k : Int) + (1 : Int)))]) (tri := []) (ora := [(0, Ora.val (Value.int IntKind.i64 (L : Int))), (1, ob), (0, ob), (1, ob), (0, ob), (0, ob), (1, ob), (0, ob), (0, Ora.val (Value.chan (some 65))), (0, Ora.val (Value.chan (some 68))), (0, Ora.val (Value.agg #[Value.int IntKind.i64 (av k).nk, Value.string (av k).nn, Value.string (av k).nt, Value.string (av k).nd, Value.int IntKind.i64 (av k).nc, Value.int IntKind.i64 (av k).ns, Value.int IntKind.i64 (av k).ni, Value.int IntKind.i64 (av k).nm, Value.bool (av k).nok, Value.chan (some 66), Value.chan (some 67)])), (0, Ora.val (Value.int IntKind.i64 (wt k)))]) (fun Fr => by kernel_rfl) (fun Fr hF => all_cons (klen Fr hF) (all_cons hc0 (all_cons hc0 (all_cons hc0 (all_cons hc1 (all_cons hc1 (all_cons hc1 (all_cons hc2 (all_cons (kidx Fr hF) (all_cons (kfN Fr hF) (all_cons (knote Fr hF) (all_cons (kwt Fr hF) (all_nil))))))))))))) (by kernel_rfl) EX_in EX_side hA1 (fun a' w' h => hN a' w' (of_decide_eq_true hc1) (of_decide_eq_true hc2) (h.cast (by kernel_rfl) (by kernel_rfl)))
      · exact wp_segB (P := Tryd.prog) (st := false) (K := KP) mixed KP_ok (G := 64) (X := 16) (cf := 100000) (n := 60) (N := 34) (x := Ex.exit 0) (out := [0, 3, 4]) (vs := [Value.chan (some 64), Value.int IntKind.i64 acc, Value.int IntKind.i64 (k : Int)]) (tri := []) (ora := [(0, Ora.val (Value.int IntKind.i64 (L : Int))), (1, ob), (0, ob), (1, ob), (0, ob), (0, ob), (1, ob), (0, oc)]) (fun Fr => by kernel_rfl) (fun Fr hF => all_cons (klen Fr hF) (all_cons hc0 (all_cons hc0 (all_cons hc0 (all_cons hc1 (all_cons hc1 (all_cons hc1 (all_cons hc2 (all_nil))))))))) (by kernel_rfl) EX_in EX_side hA1 (fun a' w' h => hE a' w' (fun x => by simp_all) (h.cast (by kernel_rfl) (by kernel_rfl)))
    · exact wp_segB (P := Tryd.prog) (st := false) (K := KP) mixed KP_ok (G := 64) (X := 16) (cf := 100000) (n := 60) (N := 34) (x := Ex.exit 0) (out := [0, 3, 4]) (vs := [Value.chan (some 64), Value.int IntKind.i64 acc, Value.int IntKind.i64 (k : Int)]) (tri := []) (ora := [(0, Ora.val (Value.int IntKind.i64 (L : Int))), (1, ob), (0, ob), (1, ob), (0, oc), (0, oc), (0, oc)]) (fun Fr => by kernel_rfl) (fun Fr hF => all_cons (klen Fr hF) (all_cons hc0 (all_cons hc0 (all_cons hc0 (all_cons hc1 (all_cons hc1 (all_cons hc1 (all_nil)))))))) (by kernel_rfl) EX_in EX_side hA1 (fun a' w' h => hE a' w' (fun x => by simp_all) (h.cast (by kernel_rfl) (by kernel_rfl)))
theorem small_no {A : Option Addr} {L C : Nat} {k : Nat} {w0 w : World} {a : Act} (acc : Int) (hk : ¬ k < L)
    (hA : AtM Tryd.prog 64 16 34 (E0 A L C) [(0, .chan (some 64)), (3, .int .i64 acc), (4, .int .i64 (k : Int))] .leaf w0 a w) {M : Act → World → Prop} {Q : Exit → Act → World → Prop}
    (hE : ∀ a' w', ¬ (false = true) → AtM Tryd.prog 64 16 34 (E0 A L C) [(0, .chan (some 64)), (3, .int .i64 acc), (4, .int .i64 (k : Int))] (heapL []) w0 a' w' → Q (.exit 0) a' w') : wpMid Tryd.prog [true] (.seq smallR .skip) M Q a w := by
    have klen : ∀ Fr, Fr = protX w0 (E0 A L C) → _ := fun Fr hF => hF ▸ know_len A L C (E0 A L C) rfl w0
    have hc0 : (decide ((k : Int) < (L : Int))) = false := decide_eq_false (by omega)
    exact wp_segB (P := Tryd.prog) (st := false) (K := KP) mixed KP_ok (G := 64) (X := 16) (cf := 100000) (n := 60) (N := 34) (x := Ex.exit 0) (out := [0, 3, 4]) (vs := [Value.chan (some 64), Value.int IntKind.i64 acc, Value.int IntKind.i64 (k : Int)]) (tri := []) (ora := [(0, Ora.val (Value.int IntKind.i64 (L : Int))), (1, oc), (0, oc), (0, oc)]) (fun Fr => by kernel_rfl) (fun Fr hF => all_cons (klen Fr hF) (all_cons hc0 (all_cons hc0 (all_cons hc0 (all_nil))))) (by kernel_rfl) E0_in E0_side hA (fun a' w' h => hE a' w' (fun x => by simp_all) (h.cast (by kernel_rfl) (by kernel_rfl)))
theorem small_post {A : Option Addr} {L C : Nat} {w0 w : World} {a : Act} (acc : Int) (wt : Nat → Int) (he : acc = sml wt L 0 0)
    (hA : AtM Tryd.prog 64 16 34 (E0 A L C) [(0, .chan (some 64)), (3, .int .i64 acc)] .leaf w0 a w) : smallP.wp Tryd.prog (bodyPost Tryd.prog Tryd.f14 fun e w' => e = .returned (.bool (smallV wt L)) ∧ Below w0.heap.size w0 w') a w := by
  have klen : ∀ Fr, Fr = protX w0 (E0 A L C) → _ := fun Fr hF => hF ▸ know_len A L C (E0 A L C) rfl w0
  refine wp_wholeQ ?_
  rcases Bool.eq_false_or_eq_true (decide ((L : Int) ≤ (150 : Int))) with hc0 | hc0
  · exact wp_segB (P := Tryd.prog) (st := false) (K := KP) mixed KP_ok (G := 64) (X := 16) (cf := 100000) (n := 60) (N := 34) (x := Ex.ret) (out := [2]) (vs := [Value.bool (decide (acc ≤ (12000 : Int)))]) (tri := []) (ora := [(0, Ora.val (Value.int IntKind.i64 (L : Int))), (1, ob), (0, ob), (1, ob)]) (fun Fr => by kernel_rfl) (fun Fr hF => all_cons (klen Fr hF) (all_cons hc0 (all_cons hc0 (all_cons hc0 (all_nil))))) (by kernel_rfl) E0_in E0_side hA (fun a' w' h => (show bodyPost Tryd.prog Tryd.f14 (fun e w' => e = .returned (.bool (smallV wt L)) ∧ Below w0.heap.size w0 w') .ret a' w' from h.ret (i := 2) (v := Value.bool (decide (acc ≤ (12000 : Int)))) rfl (by kernel_rfl) rfl fun w2 hb => ⟨by unfold smallV; rw [← he, hc0]; rfl, hb⟩))
  · exact wp_segB (P := Tryd.prog) (st := false) (K := KP) mixed KP_ok (G := 64) (X := 16) (cf := 100000) (n := 60) (N := 34) (x := Ex.ret) (out := [2]) (vs := [Value.bool false]) (tri := []) (ora := [(0, Ora.val (Value.int IntKind.i64 (L : Int))), (1, oc), (0, oc), (0, oc)]) (fun Fr => by kernel_rfl) (fun Fr hF => all_cons (klen Fr hF) (all_cons hc0 (all_cons hc0 (all_cons hc0 (all_nil))))) (by kernel_rfl) E0_in E0_side hA (fun a' w' h => (show bodyPost Tryd.prog Tryd.f14 (fun e w' => e = .returned (.bool (smallV wt L)) ∧ Below w0.heap.size w0 w') .ret a' w' from h.ret (i := 2) (v := Value.bool false) rfl (by kernel_rfl) rfl fun w2 hb => ⟨by unfold smallV; rw [← he, hc0]; rfl, hb⟩))
theorem small_any (A : Option Addr) (L C : Nat) (av : Nat → ActV) (wt : Nat → Int) (w : World) (hA : Acts w A L av) (hw : Wts w A L av wt) (hL : L ≤ 140737488355328) : Calls Tryd.prog 14 #[.slice A L C] w fun e w' => e = .returned (.bool (smallV wt L)) ∧ Below w.heap.size w w' := by
  refine calls_of_wp Tryd.func14 smallB ?_
  refine wp_mid [true, true, false, true] _ _ _ _ ?_
  rw [smallM, smallPo]
  refine wp_segB (P := Tryd.prog) (st := false) (K := KP) mixed KP_ok (G := 64) (X := 16) (cf := 100000) (n := 60) (N := 34) (ext := E0 A L C) (x := Ex.normal) (out := [0, 3, 4]) (vs := [Value.chan (some 64), Value.int IntKind.i64 ((0 : Int)), Value.int IntKind.i64 ((0 : Int))]) (tri := []) (ora := []) (fun Fr => by kernel_rfl) (fun Fr hF => all_nil) (by kernel_rfl) E0_in E0_side (AtM.start E0_in E0_side (by kernel_rfl) (by kernel_rfl) rfl (live := [(0, .chan (some 64))]) (fun q hq => by simp only [List.mem_cons, List.not_mem_nil, or_false] at hq; subst hq; kernel_rfl)) (fun a' w' h => ?QN)
  have hS : AtM Tryd.prog 64 16 34 (E0 A L C) [(0, .chan (some 64)), (3, .int .i64 0), (4, .int .i64 ((0 : Nat) : Int))] (heapL []) w a' w' := h.cast (by kernel_rfl) (by kernel_rfl)
  clear h
  obtain ⟨I, hI⟩ : ∃ I : Act → World → Prop, I = fun a x => ∃ (k : Nat) (acc : Int), k ≤ L ∧ 0 ≤ acc ∧ acc ≤ 12000 * 1000000000000000000 ∧ sml wt (L - k) k acc = sml wt L 0 0 ∧ AtM Tryd.prog 64 16 34 (E0 A L C) [(0, .chan (some 64)), (3, .int .i64 acc), (4, .int .i64 (k : Int))] (heapL []) w a x := ⟨_, rfl⟩
  refine wp_block (wp_loop I (fun a _ => L - (match a.tmps.getD 4 undef with | .int _ n => n.toNat | _ => 0)) ?_ ?_)
  · rw [hI]
    exact ⟨0, 0, by omega, by omega, by omega, rfl, hS⟩
  · intro a1 w1 h1
    rw [hI] at h1
    obtain ⟨k, acc, hk, b1, b2, hs, hM⟩ := h1
    have hv := hM.val (i := 4) (v := .int .i64 (k : Int)) (by kernel_rfl) rfl
    refine wp_whole ?_
    by_cases hkL : k < L
    · obtain ⟨ad, rfl, ha⟩ := hA k hkL
      have hwk := hw.ge k hkL
      have hwl := hw.le k hkL
      refine small_yes (C := C) acc hkL rfl ha hw (hM.swap (ext' := EX (some ad) L C ad k (av k)) (m := 64) (tri := []) E0_in EX_in E0_side EX_side ⟨_, rfl, rfl⟩ (by kernel_rfl)) (fun a2 w2 d1 d2 h2 => ?_) (fun a2 w2 d h2 => ?_)
      · have h2' := h2.swap (ext' := E0 (some ad) L C) (m := 64) (tri := []) EX_in E0_in EX_side E0_side ⟨_, rfl, rfl⟩ (by kernel_rfl)
        rw [IntWalk.i64_in _ (by omega), IntWalk.i64_in _ (by omega)] at h2'
        have hv2 := h2'.val (i := 4) (v := .int .i64 ((k : Int) + 1)) (by kernel_rfl) rfl
        refine ⟨?_, ?_⟩
        · rw [hI]
          refine ⟨k + 1, acc + wt k, by omega, by omega, by omega, ?_, h2'⟩
          rw [← hs, show L - k = (L - (k + 1)) + 1 from by omega]
          conv => rhs; unfold sml
          rw [if_pos ⟨d1, d2⟩]
        · rw [hv, hv2]
          simp only
          omega
      · refine inBlock_exit ?_
        have h2' := h2.swap (ext' := E0 (some ad) L C) (m := 64) (tri := []) EX_in E0_in EX_side E0_side ⟨_, rfl, rfl⟩ (by kernel_rfl)
        refine small_post acc wt ?_ (h2'.less [(0, .chan (some 64)), (3, .int .i64 acc)] (fun q hq => by simp only [List.mem_cons, List.not_mem_nil, or_false] at hq; rcases hq with rfl | rfl <;> kernel_rfl))
        rw [← hs, show L - k = (L - (k + 1)) + 1 from by omega]
        conv => rhs; unfold sml
        rw [if_neg d]
    · refine small_no (C := C) acc hkL hM (fun a2 w2 _ h2 => ?_)
      refine inBlock_exit ?_
      refine small_post acc wt ?_ (h2.less [(0, .chan (some 64)), (3, .int .i64 acc)] (fun q hq => by simp only [List.mem_cons, List.not_mem_nil, or_false] at hq; rcases hq with rfl | rfl <;> kernel_rfl))
      rw [← hs, show L - k = 0 from by omega]
      rfl
end Go.Proofs.YtpjkbamkaicoiaaDoor.Ses
end
