/- slab: Write, whatever the count of writes is. -/
import Derived.Test.YthpkmcohcjpmhaaSlbK
import Derived.Test.YthpkmcohcjpmhaaCls
import Derived.OwnWalk
import Derived.Laws.OwnMore
import Derived.Deep.AppendLies
set_option linter.unusedVariables false
set_option linter.unusedSimpArgs false
namespace Go.Proofs.Ythpkmcohcjpmhaa.Slb
open Go.RowKit U
variable {gS gB : Nat} {s : S} {w : World}
theorem own_set {B : Nat} {e : TypeId} {k : Nat} {v : Value} {n : Nat} {xs : List Value} {w : World} (h : w.ownsRow B e k v n xs) (a : Addr) (ha : a.block < B) (u : Value) : (w.setCell a u).ownsRow B e k v n xs := RowKit.ownsRow_setCell_below h ha u
theorem own_sets {B : Nat} {e : TypeId} {k : Nat} {v : Value} {n : Nat} {xs : List Value} {b : Nat} (hb : b < B) : ∀ (vs : List Value) (o : Nat) (w : World), w.ownsRow B e k v n xs → (w.setCells b o vs).ownsRow B e k v n xs
  | [], _, _, h => h
  | u :: r, o, w, h => own_sets hb r (o + 1) _ (own_set h ⟨b, o, none⟩ hb u)
/-- Rows of the call's own above the slab's blocks are kept. -/
def OwnKept (gS gB : Nat) (w w' : World) : Prop := ∀ (B : Nat) (e : TypeId) (k : Nat) (v : Value) (n : Nat) (xs : List Value), gS < B → gB < B → w.ownsRow B e k v n xs → w'.ownsRow B e k v n xs
set_option maxHeartbeats 1000000 in
theorem Write_wrap (h : Is gS gB s w) (k : Nat) (hk : k < s.bs.length) (hd : s.dead = false) (b : ByteArray) (hb : b.size = 64) (ha : s.after ≠ 0) (ha1 : -1 ≤ s.after) (ha2 : s.after ≤ 9223372036854775807) :
    Calls Try.prog 12 #[P gS, .int .i64 (k : Int), .string b] w (fun e w' => Post gS gB { s with bs := wr s.bs k b.data.toList, after := max (s.after - 1) (-1), writes := wrap64 (s.writes + 1) } w (.int .i64 0) e w' ∧ OwnKept gS gB w w') := by
  have HB := Lib.hid (begin_any h (k : Int))
  have hr : beg s (k : Int) = 0 := by unfold beg; rw [hd]; simp; omega
  rw [hr] at HB
  have hbl : b.data.toList.length ≤ 64 := by rw [U.len_data]; omega
  obtain ⟨A, hA⟩ : ∃ A, A = max (s.after - 1) (-1) := ⟨_, rfl⟩
  rw [← hA]
  have h1 := h.set1 A
  have h2 := h1.copy k hk b.data.toList hbl
  have h3 := h2.set4 (wrap64 (s.writes + 1))
  have c0 := h.c0
  have c1 := h.c1
  have f1 := h.fz 1
  have d0 := h1.c0
  have hcp := copied h1 k hk 64 b (by omega)
  rw [hb] at hcp
  obtain ⟨W2, hW2⟩ : ∃ W2, W2 = (w.setCell ⟨gS, 1, none⟩ (.int .i64 A)).setCells gB (k * 64) (vals b.data.toList) := ⟨_, rfl⟩
  rw [← hW2] at hcp h2 h3
  have d4 := h2.c4
  have g4 := h2.fz 4
  have H3 := Lib.hid h3
  have HW := Lib.hid hW2
  have HA := Lib.hid hA
  obtain ⟨L, hL⟩ : ∃ L : Nat, L = s.bs.length := ⟨_, rfl⟩
  have hl := h.few
  have e0 : ∀ A : Int, ({ s with after := A } : S).bs.length = s.bs.length := fun _ => rfl
  rw [← hL] at c0 hl hk
  have d0' : (w.setCell ⟨gS, 1, none⟩ (.int .i64 A)).cell? ⟨gS, 0, none⟩ = some (.slice (some ⟨gB, 0, none⟩) L L) := by rw [d0, hL]
  obtain ⟨aft, haf⟩ : ∃ a, a = s.after := ⟨_, rfl⟩
  obtain ⟨wri, hwr⟩ : ∃ a, a = s.writes := ⟨_, rfl⟩
  have d4' : W2.cell? ⟨gS, 4, none⟩ = some (.int .i64 wri) := by rw [d4, hwr]
  rw [← haf] at c1 ha ha1 ha2 HA
  rw [← hwr] at H3
  have hwe : wrap64 (s.writes + 1) = wrap64 (wri + 1) := by rw [hwr]
  rw [hwe]
  have HE := Lib.hid hwe
  clear hwe hwr haf d4 d0 hW2 hA h1 h2 h3 hr h e0
  clear hL
  by_cases ca : aft = -1
  · have : A = -1 := by have := HA.out; omega
    subst this
    subst ca
    go_enter Try.func12, Try.ntmps12
    go_wp2_with fail
    refine HB.out.mono ?_
    rintro e w1 ⟨rfl, rfl⟩
    go_wp2
    go_ret
    refine ⟨⟨rfl, H3.out, fun B q1 q2 => ?_⟩, fun B e k v n xs q1 q2 ho => ?_⟩
    · rw [HW.out]
      exact (Below_setCells q2 _ _ _ ((Below.refl B _).setCell (p := ⟨gS, 1, none⟩) q1 _)).setCell (p := ⟨gS, 4, none⟩) q1 _
    · rw [HW.out]
      exact own_set (own_sets q2 _ _ _ (own_set ho ⟨gS, 1, none⟩ q1 _)) ⟨gS, 4, none⟩ q1 _
  · have : A = aft - 1 := by have := HA.out; omega
    subst this
    go_enter Try.func12, Try.ntmps12
    go_wp2_with fail
    refine HB.out.mono ?_
    rintro e w1 ⟨rfl, rfl⟩
    go_wp2
    go_ret
    refine ⟨⟨rfl, H3.out, fun B q1 q2 => ?_⟩, fun B e k v n xs q1 q2 ho => ?_⟩
    · rw [HW.out]
      exact (Below_setCells q2 _ _ _ ((Below.refl B _).setCell (p := ⟨gS, 1, none⟩) q1 _)).setCell (p := ⟨gS, 4, none⟩) q1 _
    · rw [HW.out]
      exact own_set (own_sets q2 _ _ _ (own_set ho ⟨gS, 1, none⟩ q1 _)) ⟨gS, 4, none⟩ q1 _
end Go.Proofs.Ythpkmcohcjpmhaa.Slb
