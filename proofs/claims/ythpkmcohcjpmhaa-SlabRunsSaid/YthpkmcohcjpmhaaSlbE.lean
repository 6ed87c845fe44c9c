/- slab at this translation: bytes laid into a block; Write. -/
import Derived.Test.YthpkmcohcjpmhaaSlbD
import Derived.Lib.LazyBuf
set_option linter.unusedVariables false
set_option linter.unusedSimpArgs false
namespace Go.Proofs.Ythpkmcohcjpmhaa.Slb
open Go.RowKit U
variable {gS gB : Nat} {s : S} {w : World}
theorem At_setCells {g : Nat} {T : TypeId} (C : List Value) : ∀ (vs A B : List Value) (w : World), vs.length = B.length → At g T (A ++ B ++ C).toArray w → At g T (A ++ vs ++ C).toArray (w.setCells g A.length vs)
  | [], A, [], w, _, h => h
  | v :: vs, A, b :: B, w, hl, h => by
    have h1 := h.set A.length v
    have e1 : (A ++ b :: B ++ C).toArray.setIfInBounds A.length v = ((A ++ [v]) ++ B ++ C).toArray := by simp
    rw [e1] at h1
    have h2 := At_setCells C vs (A ++ [v]) B _ (by simpa using hl) h1
    rw [List.length_append] at h2
    show At g T _ ((w.setCell ⟨g, A.length, none⟩ v).setCells g (A.length + 1) vs)
    simpa using h2
theorem At_other {g b : Nat} {T : TypeId} {cs : Array Value} (hne : g ≠ b) : ∀ (vs : List Value) (o : Nat) (w : World), At g T cs w → At g T cs (w.setCells b o vs)
  | [], _, _, h => h
  | v :: r, o, w, h => At_other hne r (o + 1) _ (h.other ⟨b, o, none⟩ v hne)
theorem Below_setCells {B b : Nat} {a : World} (hb : B ≤ b) : ∀ (vs : List Value) (o : Nat) (w : World), Below B a w → Below B a (w.setCells b o vs)
  | [], _, _, h => h
  | v :: r, o, w, h => Below_setCells hb r (o + 1) _ (h.setCell (p := ⟨b, o, none⟩) hb v)
theorem flat_len : ∀ (bs : List (List UInt8)) (h : ∀ b ∈ bs, b.length = 64), bs.flatten.length = bs.length * 64
  | [], _ => rfl
  | b :: bs, h => by rw [List.flatten_cons, List.length_append, flat_len bs (fun x hx => h x (List.mem_cons_of_mem _ hx)), h b List.mem_cons_self, List.length_cons]; omega
def wr (bs : List (List UInt8)) (k : Nat) (l : List UInt8) : List (List UInt8) := bs.set k (l ++ (bs.getD k []).drop l.length)
theorem flat_put (g : Nat) (bs : List (List UInt8)) (h : ∀ b ∈ bs, b.length = 64) (k : Nat) (hk : k < bs.length) (l : List UInt8) (hl : l.length ≤ 64) (h1 : At g 58 (flat bs) w) :
    At g 58 (flat (wr bs k l)) (w.setCells g (k * 64) (l.map fun x => Value.int .u8 (x.toNat : Int))) := by
  have h64 : (bs[k]).length = 64 := h _ (List.getElem_mem _)
  have hs : bs = bs.take k ++ bs[k] :: bs.drop (k + 1) := by
    conv => lhs; rw [← List.take_append_drop k bs, List.drop_eq_getElem_cons hk]
  have hf : bs.flatten = (bs.take k).flatten ++ ((bs[k]).take l.length ++ ((bs[k]).drop l.length ++ (bs.drop (k + 1)).flatten)) := by
    conv => lhs; rw [hs, List.flatten_append, List.flatten_cons]
    rw [← List.append_assoc ((bs[k]).take l.length), List.take_append_drop]
  have hw : (wr bs k l).flatten = (bs.take k).flatten ++ (l ++ ((bs[k]).drop l.length ++ (bs.drop (k + 1)).flatten)) := by
    unfold wr
    rw [List.set_eq_take_append_cons_drop, if_pos hk, List.flatten_append, List.flatten_cons, List.append_assoc, List.getD_eq_getElem?_getD, List.getElem?_eq_getElem hk]; rfl
  have hA : ((bs.take k).flatten).length = k * 64 := by
    rw [flat_len _ (fun b hb => h b (List.mem_of_mem_take hb)), List.length_take]; rw [Nat.min_eq_left (by omega)]
  unfold flat at h1 ⊢
  rw [hf, List.map_append, List.map_append, ← List.append_assoc] at h1
  rw [hw, List.map_append, List.map_append, ← List.append_assoc]
  have := At_setCells _ (l.map fun x => Value.int .u8 (x.toNat : Int)) _ _ w (by simp; omega) h1
  rw [List.length_map, hA] at this
  exact this
theorem wr_len (bs : List (List UInt8)) (h : ∀ b ∈ bs, b.length = 64) (k : Nat) (l : List UInt8) (hl : l.length ≤ 64) : ∀ b ∈ wr bs k l, b.length = 64 := by
  intro b hb
  unfold wr at hb
  by_cases hk : k < bs.length
  · rcases List.mem_or_eq_of_mem_set hb with h1 | h1
    · exact h b h1
    · have h64 : (bs[k]).length = 64 := h _ (List.getElem_mem _)
      rw [h1, List.length_append, List.length_drop, List.getD_eq_getElem?_getD, List.getElem?_eq_getElem hk, Option.getD_some, h64]; omega
  · rw [List.set_eq_of_length_le (by omega)] at hb; exact h b hb
theorem wr_size (bs : List (List UInt8)) (k : Nat) (l : List UInt8) : (wr bs k l).length = bs.length := by unfold wr; rw [List.length_set]
theorem wr_full (bs : List (List UInt8)) (h : ∀ b ∈ bs, b.length = 64) (k : Nat) (l : List UInt8) (hl : l.length = 64) : wr bs k l = bs.set k l := by
  unfold wr
  by_cases hk : k < bs.length
  · have h64 : (bs[k]).length = 64 := h _ (List.getElem_mem _)
    rw [List.getD_eq_getElem?_getD, List.getElem?_eq_getElem hk, Option.getD_some, List.drop_of_length_le (by omega), List.append_nil]
  · rw [List.set_eq_of_length_le (by omega), List.set_eq_of_length_le (by omega)]
end Go.Proofs.Ythpkmcohcjpmhaa.Slb
