/- Contracts of functions of this translation, and what they come to; what is not used is left out. -/
import Derived.Test.YtofdiilfedjhkaaDoorKHanA
import Derived.Test.YtofdiilfedjhkaaDoorKGlyA
import Derived.Test.YtofdiilfedjhkaaDoorKGlyP
import Derived.Test.YtofdiilfedjhkaaDoorKUtil
import Derived.Test.YtofdiilfedjhkaaDoorKRep
import Derived.Test.YtofdiilfedjhkaaDoorKStrs
import Derived.Test.YtofdiilfedjhkaaDoorKShelf
import Derived.Test.YtofdiilfedjhkaaDoorKBld
import Derived.Test.YtofdiilfedjhkaaDoorKSubV0
import Derived.Test.YtofdiilfedjhkaaDoorKg7p1
import Derived.Test.YtofdiilfedjhkaaDoorKg7p0
import Derived.Test.YtofdiilfedjhkaaDoorKg4
import Derived.Test.YtofdiilfedjhkaaDoorKg6
import Derived.Test.YtofdiilfedjhkaaDoorKBox
import Derived.Test.YtofdiilfedjhkaaDoorKCls
import Derived.Test.YtofdiilfedjhkaaDoorKg5

section
/- wharflaw23.small and live. (Printed by gen_subv.py.) -/
set_option linter.unusedVariables false
set_option linter.unusedSimpArgs false
set_option maxRecDepth 100000
namespace Go.Proofs.YtofdiilfedjhkaaDoor.SubW
open Go.RowKit Go.Proofs.YtofdiilfedjhkaaDoor.E Go.Proofs.YtofdiilfedjhkaaDoor.Ses
def ob : Ora := .bit true
def oc : Ora := .bit false
theorem mixed : Tryd.prog.follows .mixedOrders = true := by kernel_rfl
theorem live_any (w : World) : Calls Tryd.prog 7 #[] w fun e w' => e = .returned (.bool true) ∧ Below w.heap.size w w' := by
  have h1 : ∀ Fr, PureC Tryd.prog Fr 17 #[.string ⟨#[106, 111, 101]⟩, .string ⟨#[74, 111, 101]⟩] (.bool true) := fun Fr => pureC_of (fun w => (Han.Same_any ⟨#[106, 111, 101]⟩ ⟨#[74, 111, 101]⟩ (by decide) (by decide) w).mono fun e w' h => ⟨by rw [h.1]; rfl, h.2⟩) rfl (by rfl) Fr
  have h2 : ∀ Fr, PureC Tryd.prog Fr 17 #[.string ⟨#[106, 111, 101]⟩, .string ⟨#[106, 111, 101]⟩] (.bool true) := fun Fr => pureC_of (fun w => (Han.Same_any ⟨#[106, 111, 101]⟩ ⟨#[106, 111, 101]⟩ (by decide) (by decide) w).mono fun e w' h => ⟨by rw [h.1]; rfl, h.2⟩) rfl (by rfl) Fr
  exact calls_out (P := Tryd.prog) (st := false) (K := fun _ _ => none) mixed (fun _ _ _ h => by cases h) (G := 64) (cf := 100000) (n := 60) (f := 7) (v := .bool true) (ora := [(17, Ora.val (Value.bool true)), (25, Ora.val (Value.bool true)), (10, Ora.val (Value.bool true))]) (fun Fr => by kernel_rfl) (fun Fr => all_cons (h1 Fr) (all_cons (h2 Fr) (all_cons (h2 Fr) all_nil))) rfl rfl w
def KP (f : FuncId) (a : Array Value) : Option Value := match Nat.beq f 7 with
  | true => match a.toList with
    | [] => some (.bool true)
    | _ => none
  | false => none
theorem KP_ok (f : FuncId) (a : Array Value) (v : Value) (h : KP f a = some v) (w : World) : Calls Tryd.prog f a w fun e w' => e = .returned v ∧ Below w.heap.size w w' := by
  unfold KP at h
  split at h
  · rename_i hf
    have hf : f = 7 := Nat.eq_of_beq_eq_true hf
    subst hf
    split at h <;> try (cases h; done)
    rename_i ha
    simp only [Option.some.injEq] at h
    subst h
    obtain rfl : a = #[] := Array.ext' ha
    exact live_any w
  · cases h
def wt (a : ActV) : Int := (a.sS.size : Int) + (a.sA.size : Int) + (a.sG.size : Int) + (a.nn.size : Int) + (a.wn.size : Int) + (a.xn.size : Int)
def sml (av : Nat → ActV) : Nat → Nat → Int → Int
  | 0, _, acc => acc
  | j + 1, k, acc => if (k : Int) ≤ 60 ∧ acc ≤ 8000 then sml av j (k + 1) (acc + wt (av k)) else acc
def smallV (n : ByteArray) (av : Nat → ActV) (L : Nat) : Bool := decide ((L : Int) ≤ 60) && decide (sml av L 0 (n.size : Int) ≤ 8000)
theorem wt_ge (a : ActV) : 0 ≤ wt a := by unfold wt; omega
theorem sml_ge (av : Nat → ActV) : ∀ (j k : Nat) (acc : Int), acc ≤ sml av j k acc
  | 0, _, acc => Int.le_refl _
  | j + 1, k, acc => by
    unfold sml
    split
    · have := sml_ge av j (k + 1) (acc + wt (av k))
      have := wt_ge (av k)
      omega
    · exact Int.le_refl _
theorem sml_each (av : Nat → ActV) : ∀ (j k : Nat) (acc : Int), 0 ≤ acc → k + j ≤ 60 → sml av j k acc ≤ 8000 → ∀ i, k ≤ i → i < k + j → wt (av i) ≤ 8000
  | 0, k, acc, _, _, _ => fun i h1 h2 => absurd h2 (by omega)
  | j + 1, k, acc, h0, hk, hs => fun i h1 h2 => by
    unfold sml at hs
    split at hs
    · have hw := wt_ge (av k)
      by_cases e : i = k
      · subst e
        have := sml_ge av j (i + 1) (acc + wt (av i))
        omega
      · exact sml_each av j (k + 1) (acc + wt (av k)) (by omega) (by omega) hs i (by omega) (by omega)
    · rename_i hn
      have := sml_ge av (j + 1) k acc
      exact absurd ⟨by omega, by omega⟩ hn
theorem small_each {n : ByteArray} {av : Nat → ActV} {L : Nat} (hs : smallV n av L = true) : n.size ≤ 8000 ∧ ∀ i, i < L → wt (av i) ≤ 8000 := by
  unfold smallV at hs
  simp only [Bool.and_eq_true, decide_eq_true_eq] at hs
  have := sml_ge av L 0 (n.size : Int)
  exact ⟨by omega, fun i hi => sml_each av L 0 (n.size : Int) (by omega) (by omega) hs.2 i (by omega) (by omega)⟩
theorem wrap6 (acc a b c d e f : Int) (h : 0 ≤ acc) (ha : 0 ≤ a) (hb : 0 ≤ b) (hc : 0 ≤ c) (hd : 0 ≤ d) (he : 0 ≤ e) (hf : 0 ≤ f) (hs : acc + a + b + c + d + e + f ≤ 9000000000000000000) :
    IntKind.i64.wrap (IntKind.i64.wrap (IntKind.i64.wrap (IntKind.i64.wrap (IntKind.i64.wrap (IntKind.i64.wrap (acc + a) + b) + c) + d) + e) + f) = acc + (a + b + c + d + e + f) := by
  rw [IntWalk.i64_in (acc + a) (by omega), IntWalk.i64_in (acc + a + b) (by omega), IntWalk.i64_in (acc + a + b + c) (by omega), IntWalk.i64_in (acc + a + b + c + d) (by omega), IntWalk.i64_in (acc + a + b + c + d + e) (by omega), IntWalk.i64_in (acc + a + b + c + d + e + f) (by omega)]
  omega
noncomputable def smallC : Code := (Tryd.f15.body).getD .skip
noncomputable def smallR : Code := subC [true, true, false, true, false, false] smallC
noncomputable def smallP : Code := subC [true, true, true] smallC
theorem smallB : Tryd.f15.body = some smallC := by kernel_rfl
theorem smallM : midC [true, true, false, true] smallC = .block 0 (.loop smallR) := by kernel_rfl
theorem smallPo (P : Program) (Q : Exit → Act → World → Prop) : wpPost P [true, true, false, true] smallC Q = fun a w => smallP.wp P Q a w := by kernel_rfl
theorem small_yes {A : Option Addr} {L C : Nat} {ad : Addr} {k : Nat} {av : Nat → ActV} {w0 w : World} {a : Act} (acc : Int) (hk : k < L) (hA : A = some ad) (ha : ActAt w0 ad k (av k))
    (hA1 : AtM Tryd.prog 64 16 65 (EX A L C ad k (av k)) [(1, .chan (some 64)), (5, .int .i64 acc), (6, .int .i64 (k : Int))] .leaf w0 a w) {M : Act → World → Prop} {Q : Exit → Act → World → Prop}
    (hN : ∀ a' w', (k : Int) ≤ 60 → acc ≤ 8000 → AtM Tryd.prog 64 16 65 (EX A L C ad k (av k)) [(1, .chan (some 64)), (5, .int .i64 (IntKind.wrap IntKind.i64 (IntKind.wrap IntKind.i64 (IntKind.wrap IntKind.i64 (IntKind.wrap IntKind.i64 (IntKind.wrap IntKind.i64 (IntKind.wrap IntKind.i64 (acc + (↑(ByteArray.size (av k).sS) : Int)) + (↑(ByteArray.size (av k).sA) : Int)) + (↑(ByteArray.size (av k).sG) : Int)) + (↑(ByteArray.size (av k).nn) : Int)) + (↑(ByteArray.size (av k).wn) : Int)) + (↑(ByteArray.size (av k).xn) : Int)))), (6, .int .i64 (IntKind.wrap IntKind.i64 ((k : Int) + 1)))] (heapL []) w0 a' w' → M a' w')
    (hE : ∀ a' w', ¬ ((k : Int) ≤ 60 ∧ acc ≤ 8000) → AtM Tryd.prog 64 16 65 (EX A L C ad k (av k)) [(1, .chan (some 64)), (5, .int .i64 acc), (6, .int .i64 (k : Int))] (heapL []) w0 a' w' → Q (.exit 0) a' w') : wpMid Tryd.prog [true] (.seq smallR .skip) M Q a w := by
    subst hA
    have klen : ∀ Fr, Fr = protX w0 (EX (some ad) L C ad k (av k)) → _ := fun Fr hF => hF ▸ know_len (some ad) L C (EX (some ad) L C ad k (av k)) rfl w0
    have kidx : ∀ Fr, Fr = protX w0 (EX (some ad) L C ad k (av k)) → _ := fun Fr hF => hF ▸ know_index (w := w0) (C := C) (av := av) hk
    have kact : ∀ Fr, Fr = protX w0 (EX (some ad) L C ad k (av k)) → _ := fun Fr hF => hF ▸ know_act (A := some ad) (L := L) (C := C) ha
    have hc0 : (decide ((k : Int) < (L : Int))) = true := decide_eq_true (by omega)
    rcases Bool.eq_false_or_eq_true (decide ((k : Int) ≤ (60 : Int))) with hc1 | hc1
    · rcases Bool.eq_false_or_eq_true (decide (acc ≤ (8000 : Int))) with hc2 | hc2
      · exact wp_segB (P := Tryd.prog) (st := false) (K := KP) mixed KP_ok (G := 64) (X := 16) (cf := 100000) (n := 60) (N := 65) (ext := (EX (some ad) L C ad k (av k))) (x := Ex.normal) (out := [1, 5, 6]) (vs := [Value.chan (some 64), Value.int IntKind.i64 (IntKind.wrap IntKind.i64 (IntKind.wrap IntKind.i64 (IntKind.wrap IntKind.i64 (IntKind.wrap IntKind.i64 (IntKind.wrap IntKind.i64 (IntKind.wrap IntKind.i64 (acc + (↑(ByteArray.size (av k).sS) : Int)) + (↑(ByteArray.size (av k).sA) : Int)) + (↑(ByteArray.size (av k).sG) : Int)) + (↑(ByteArray.size (av k).nn) : Int)) + (↑(ByteArray.size (av k).wn) : Int)) + (↑(ByteArray.size (av k).xn) : Int))), Value.int IntKind.i64 (IntKind.wrap IntKind.i64 ((k : Int) + (1 : Int)))]) (tri := []) (ora := [(0, Ora.val (Value.int IntKind.i64 (L : Int))), (1, ob), (0, ob), (1, ob), (0, ob), (0, ob), (1, ob), (0, ob), (0, Ora.val (Value.chan (some 65))), (0, Ora.val (Value.agg #[Value.int IntKind.i64 (av k).kd, Value.string (av k).sS, Value.string (av k).sA, Value.string (av k).sG, Value.int IntKind.i64 (av k).nk, Value.string (av k).nn, Value.string (av k).nt, Value.string (av k).nd, Value.int IntKind.i64 (av k).nc, Value.int IntKind.i64 (av k).ns, Value.int IntKind.i64 (av k).ni, Value.int IntKind.i64 (av k).nm, Value.bool (av k).nok, Value.chan (some 66), Value.chan (some 67), Value.int IntKind.i64 (av k).wk, Value.string (av k).wn, Value.string (av k).wa, Value.string (av k).wg, Value.bool (av k).wb, Value.int IntKind.i64 (av k).dc, Value.string (av k).xn, Value.int IntKind.i64 (av k).xg, Value.int IntKind.i64 (av k).xi, Value.int IntKind.i64 (av k).xt, Value.string (av k).xa, Value.bool (av k).xb]))]) (fun _ => by kernel_rfl) (fun Fr hF => all_cons (klen Fr hF) (all_cons hc0 (all_cons hc0 (all_cons hc0 (all_cons hc1 (all_cons hc1 (all_cons hc1 (all_cons hc2 (all_cons (kidx Fr hF) (all_cons (kact Fr hF) (all_nil))))))))))) (by kernel_rfl) EX_in EX_side hA1 (fun a' w' h => hN a' w' (of_decide_eq_true hc1) (of_decide_eq_true hc2) (h.cast (by kernel_rfl) (by kernel_rfl)))
      · exact wp_segB (P := Tryd.prog) (st := false) (K := KP) mixed KP_ok (G := 64) (X := 16) (cf := 100000) (n := 60) (N := 65) (ext := (EX (some ad) L C ad k (av k))) (x := Ex.exit 0) (out := [1, 5, 6]) (vs := [Value.chan (some 64), Value.int IntKind.i64 acc, Value.int IntKind.i64 (k : Int)]) (tri := []) (ora := [(0, Ora.val (Value.int IntKind.i64 (L : Int))), (1, ob), (0, ob), (1, ob), (0, ob), (0, ob), (1, ob), (0, oc)]) (fun _ => by kernel_rfl) (fun Fr hF => all_cons (klen Fr hF) (all_cons hc0 (all_cons hc0 (all_cons hc0 (all_cons hc1 (all_cons hc1 (all_cons hc1 (all_cons hc2 (all_nil))))))))) (by kernel_rfl) EX_in EX_side hA1 (fun a' w' h => hE a' w' (fun x => by simp_all) (h.cast (by kernel_rfl) (by kernel_rfl)))
    · exact wp_segB (P := Tryd.prog) (st := false) (K := KP) mixed KP_ok (G := 64) (X := 16) (cf := 100000) (n := 60) (N := 65) (ext := (EX (some ad) L C ad k (av k))) (x := Ex.exit 0) (out := [1, 5, 6]) (vs := [Value.chan (some 64), Value.int IntKind.i64 acc, Value.int IntKind.i64 (k : Int)]) (tri := []) (ora := [(0, Ora.val (Value.int IntKind.i64 (L : Int))), (1, ob), (0, ob), (1, ob), (0, oc), (0, oc), (0, oc)]) (fun _ => by kernel_rfl) (fun Fr hF => all_cons (klen Fr hF) (all_cons hc0 (all_cons hc0 (all_cons hc0 (all_cons hc1 (all_cons hc1 (all_cons hc1 (all_nil)))))))) (by kernel_rfl) EX_in EX_side hA1 (fun a' w' h => hE a' w' (fun x => by simp_all) (h.cast (by kernel_rfl) (by kernel_rfl)))
theorem small_no {A : Option Addr} {L C : Nat} {k : Nat} {w0 w : World} {a : Act} (acc : Int) (hk : ¬ k < L)
    (hA : AtM Tryd.prog 64 16 65 (E0 A L C) [(1, .chan (some 64)), (5, .int .i64 acc), (6, .int .i64 (k : Int))] .leaf w0 a w) {M : Act → World → Prop} {Q : Exit → Act → World → Prop}
    (hE : ∀ a' w', ¬ (false = true) → AtM Tryd.prog 64 16 65 (E0 A L C) [(1, .chan (some 64)), (5, .int .i64 acc), (6, .int .i64 (k : Int))] (heapL []) w0 a' w' → Q (.exit 0) a' w') : wpMid Tryd.prog [true] (.seq smallR .skip) M Q a w := by
    have klen : ∀ Fr, Fr = protX w0 (E0 A L C) → _ := fun Fr hF => hF ▸ know_len A L C (E0 A L C) rfl w0
    have hc0 : (decide ((k : Int) < (L : Int))) = false := decide_eq_false (by omega)
    exact wp_segB (P := Tryd.prog) (st := false) (K := KP) mixed KP_ok (G := 64) (X := 16) (cf := 100000) (n := 60) (N := 65) (ext := (E0 A L C)) (x := Ex.exit 0) (out := [1, 5, 6]) (vs := [Value.chan (some 64), Value.int IntKind.i64 acc, Value.int IntKind.i64 (k : Int)]) (tri := []) (ora := [(0, Ora.val (Value.int IntKind.i64 (L : Int))), (1, oc), (0, oc), (0, oc)]) (fun _ => by kernel_rfl) (fun Fr hF => all_cons (klen Fr hF) (all_cons hc0 (all_cons hc0 (all_cons hc0 (all_nil))))) (by kernel_rfl) E0_in E0_side hA (fun a' w' h => hE a' w' (fun x => by simp_all) (h.cast (by kernel_rfl) (by kernel_rfl)))
theorem small_post {A : Option Addr} {L C : Nat} {w0 w : World} {a : Act} (acc : Int) (n : ByteArray) (av : Nat → ActV) (he : acc = sml av L 0 (n.size : Int))
    (hA : AtM Tryd.prog 64 16 65 (E0 A L C) [(1, .chan (some 64)), (5, .int .i64 acc)] .leaf w0 a w) : smallP.wp Tryd.prog (bodyPost Tryd.prog Tryd.f15 fun e w' => e = .returned (.bool (smallV n av L)) ∧ Below w0.heap.size w0 w') a w := by
  have klen : ∀ Fr, Fr = protX w0 (E0 A L C) → _ := fun Fr hF => hF ▸ know_len A L C (E0 A L C) rfl w0
  refine wp_wholeQ ?_
  rcases Bool.eq_false_or_eq_true (decide ((L : Int) ≤ (60 : Int))) with hc0 | hc0
  · exact wp_segB (P := Tryd.prog) (st := false) (K := KP) mixed KP_ok (G := 64) (X := 16) (cf := 100000) (n := 60) (N := 65) (ext := (E0 A L C)) (x := Ex.ret) (out := [4]) (vs := [Value.bool (decide (acc ≤ (8000 : Int)))]) (tri := []) (ora := [(0, Ora.val (Value.int IntKind.i64 (L : Int))), (1, ob), (0, ob), (1, ob)]) (fun _ => by kernel_rfl) (fun Fr hF => all_cons (klen Fr hF) (all_cons hc0 (all_cons hc0 (all_cons hc0 (all_nil))))) (by kernel_rfl) E0_in E0_side hA (fun a' w' h => (show bodyPost Tryd.prog Tryd.f15 (fun e w' => e = .returned (.bool (smallV n av L)) ∧ Below w0.heap.size w0 w') .ret a' w' from h.ret (i := 4) (v := Value.bool (decide (acc ≤ (8000 : Int)))) rfl (by kernel_rfl) rfl fun w2 hb => ⟨by unfold smallV; rw [← he, hc0]; rfl, hb⟩))
  · exact wp_segB (P := Tryd.prog) (st := false) (K := KP) mixed KP_ok (G := 64) (X := 16) (cf := 100000) (n := 60) (N := 65) (ext := (E0 A L C)) (x := Ex.ret) (out := [4]) (vs := [Value.bool false]) (tri := []) (ora := [(0, Ora.val (Value.int IntKind.i64 (L : Int))), (1, oc), (0, oc), (0, oc)]) (fun _ => by kernel_rfl) (fun Fr hF => all_cons (klen Fr hF) (all_cons hc0 (all_cons hc0 (all_cons hc0 (all_nil))))) (by kernel_rfl) E0_in E0_side hA (fun a' w' h => (show bodyPost Tryd.prog Tryd.f15 (fun e w' => e = .returned (.bool (smallV n av L)) ∧ Below w0.heap.size w0 w') .ret a' w' from h.ret (i := 4) (v := Value.bool false) rfl (by kernel_rfl) rfl fun w2 hb => ⟨by unfold smallV; rw [← he, hc0]; rfl, hb⟩))
theorem small_any (n : ByteArray) (tO pe aw fr as_ on : Bool) (st id : Int) (A : Option Addr) (L C : Nat) (av : Nat → ActV) (w : World) (hn : n.size ≤ RB) (hA : Acts w A L av) (hL : L ≤ RB) : Calls Tryd.prog 15 #[.agg #[.string n, .bool tO, .bool pe, .bool aw, .bool fr, .bool as_, .bool on, .int .i64 st, .int .i64 id], .slice A L C] w fun e w' => e = .returned (.bool (smallV n av L)) ∧ Below w.heap.size w w' := by
  unfold RB at hn hL
  refine calls_of_wp Tryd.func15 smallB ?_
  refine wp_mid [true, true, false, true] _ _ _ _ ?_
  rw [smallM, smallPo]
  refine wp_segB (P := Tryd.prog) (st := false) (K := KP) mixed KP_ok (G := 64) (X := 16) (cf := 100000) (n := 60) (N := 65) (ext := (E0 A L C)) (x := Ex.normal) (out := [1, 5, 6]) (vs := [Value.chan (some 64), Value.int IntKind.i64 (↑(ByteArray.size n) : Int), Value.int IntKind.i64 ((0 : Int))]) (tri := []) (ora := []) (fun _ => by kernel_rfl) (fun Fr hF => all_nil) (by kernel_rfl) E0_in E0_side (AtM.start E0_in E0_side (by kernel_rfl) (by kernel_rfl) rfl (live := [(0, .agg #[.string n, .bool tO, .bool pe, .bool aw, .bool fr, .bool as_, .bool on, .int .i64 st, .int .i64 id]), (1, .chan (some 64))]) (fun q hq => by simp only [List.mem_cons, List.not_mem_nil, or_false] at hq; rcases hq with rfl | rfl <;> kernel_rfl)) (fun a' w' h => ?QN)
  have hS : AtM Tryd.prog 64 16 65 (E0 A L C) [(1, .chan (some 64)), (5, .int .i64 (n.size : Int)), (6, .int .i64 ((0 : Nat) : Int))] (heapL []) w a' w' := h.cast (by kernel_rfl) (by kernel_rfl)
  clear h
  obtain ⟨I, hI⟩ : ∃ I : Act → World → Prop, I = fun a x => ∃ (k : Nat) (acc : Int), k ≤ L ∧ 0 ≤ acc ∧ acc ≤ 1000000000000000000 ∧ sml av (L - k) k acc = sml av L 0 (n.size : Int) ∧ AtM Tryd.prog 64 16 65 (E0 A L C) [(1, .chan (some 64)), (5, .int .i64 acc), (6, .int .i64 (k : Int))] (heapL []) w a x := ⟨_, rfl⟩
  refine wp_block (wp_loop I (fun a _ => L - (match a.tmps.getD 6 undef with | .int _ n => n.toNat | _ => 0)) ?_ ?_)
  · rw [hI]
    exact ⟨0, _, by omega, by omega, by omega, rfl, hS⟩
  · intro a1 w1 h1
    rw [hI] at h1
    obtain ⟨k, acc, hk, b1, b2, hs, hM⟩ := h1
    have hv := hM.val (i := 6) (v := .int .i64 (k : Int)) (by kernel_rfl) rfl
    refine wp_whole ?_
    by_cases hkL : k < L
    · obtain ⟨ad, rfl, ha⟩ := hA k hkL
      have z1 := ha.zS
      have z2 := ha.zA
      have z3 := ha.zG
      have z4 := ha.zn
      have z5 := ha.zw
      have z6 := ha.zx
      unfold RB at z1 z2 z3 z4 z5 z6
      refine small_yes (C := C) acc hkL rfl ha (hM.swap (ext' := EX (some ad) L C ad k (av k)) (m := 64) (tri := []) E0_in EX_in E0_side EX_side ⟨_, rfl, rfl⟩ (by kernel_rfl)) (fun a2 w2 d1 d2 h2 => ?_) (fun a2 w2 d h2 => ?_)
      · have h2' := h2.swap (ext' := E0 (some ad) L C) (m := 64) (tri := []) EX_in E0_in EX_side E0_side ⟨_, rfl, rfl⟩ (by kernel_rfl)
        rw [wrap6 _ _ _ _ _ _ _ b1 (by omega) (by omega) (by omega) (by omega) (by omega) (by omega) (by omega), IntWalk.i64_in _ (by omega)] at h2'
        have hv2 := h2'.val (i := 6) (v := .int .i64 ((k : Int) + 1)) (by kernel_rfl) rfl
        refine ⟨?_, ?_⟩
        · rw [hI]
          refine ⟨k + 1, acc + wt (av k), by omega, by have := wt_ge (av k); omega, by unfold wt; omega, ?_, h2'⟩
          rw [← hs, show L - k = (L - (k + 1)) + 1 from by omega]
          conv => rhs; unfold sml
          rw [if_pos ⟨d1, d2⟩]
        · rw [hv, hv2]
          simp only
          omega
      · refine inBlock_exit ?_
        have h2' := h2.swap (ext' := E0 (some ad) L C) (m := 64) (tri := []) EX_in E0_in EX_side E0_side ⟨_, rfl, rfl⟩ (by kernel_rfl)
        refine small_post acc n av ?_ (h2'.less [(1, .chan (some 64)), (5, .int .i64 acc)] (fun q hq => by simp only [List.mem_cons, List.not_mem_nil, or_false] at hq; rcases hq with rfl | rfl <;> kernel_rfl))
        rw [← hs, show L - k = (L - (k + 1)) + 1 from by omega]
        conv => rhs; unfold sml
        rw [if_neg d]
    · refine small_no (C := C) acc hkL hM (fun a2 w2 _ h2 => ?_)
      refine inBlock_exit ?_
      refine small_post acc n av ?_ (h2.less [(1, .chan (some 64)), (5, .int .i64 acc)] (fun q hq => by simp only [List.mem_cons, List.not_mem_nil, or_false] at hq; rcases hq with rfl | rfl <;> kernel_rfl))
      rw [← hs, show L - k = 0 from by omega]
      rfl
end Go.Proofs.YtofdiilfedjhkaaDoor.SubW
end
