/- Layer 3's functions as the printed texts want them: what each returns, as a function that may fail past 2^36 bytes. -/
import Derived.Test.YthifpbaebbodoaaDoorRaI
set_option linter.unusedVariables false
namespace Go.Proofs.YthifpbaebbodoaaDoor.F
open Go.RowKit GlyP JidP
/-- A bound on lengths. -/
def jl : Nat := 68719476736
abbrev jl3 (a b c : ByteArray) : Prop := a.size ≤ jl ∧ b.size ≤ jl ∧ c.size ≤ jl
def jid_Check.f (a b c : ByteArray) : Option Int := if jl3 a b c then some (if ok (Jid.jOf a b c) = true then 0 else 30) else none
theorem jid_Check.calls (a b c : ByteArray) (r : Int) (w : World) (h : jid_Check.f a b c = some r) :
    Calls Tryd.prog 14 #[.agg #[.string a, .string b, .string c]] w fun e w' => e = .returned (.int .i64 r) ∧ Below w.heap.size w w' := by
  unfold jid_Check.f at h
  by_cases hc : jl3 a b c
  · rw [if_pos hc] at h
    obtain rfl := Option.some.inj h
    exact Jid.Check_any a b c hc.1 hc.2.1 hc.2.2 w
  · rw [if_neg hc] at h; cases h
def jid_Norm.f (a b c : ByteArray) : Option (ByteArray × ByteArray × ByteArray) := if jl3 a b c then some (⟨(a.data.toList.map Gly.low).toArray⟩, ⟨(trimPoint (b.data.toList.map Gly.low)).toArray⟩, c) else none
theorem jid_Norm.calls (a b c r1 r2 r3 : ByteArray) (w : World) (h : jid_Norm.f a b c = some (r1, r2, r3)) :
    Calls Tryd.prog 18 #[.agg #[.string a, .string b, .string c]] w fun e w' => e = .returned (.agg #[.string r1, .string r2, .string r3]) ∧ Below w.heap.size w w' := by
  unfold jid_Norm.f at h
  by_cases hc : jl3 a b c
  · rw [if_pos hc] at h
    obtain ⟨rfl, h2⟩ := Prod.mk.inj (Option.some.inj h)
    obtain ⟨rfl, rfl⟩ := Prod.mk.inj h2
    exact Jid.Norm_any a b c hc.1 hc.2.1 w
  · rw [if_neg hc] at h; cases h
def jid_Put.f (a b c : ByteArray) : Option ByteArray := if jl3 a b c then some (Jid.putB a b c) else none
theorem jid_Put.calls (a b c : ByteArray) (r : ByteArray) (w : World) (h : jid_Put.f a b c = some r) :
    Calls Tryd.prog 16 #[.agg #[.string a, .string b, .string c]] w fun e w' => e = .returned (.string r) ∧ Below w.heap.size w w' := by
  unfold jid_Put.f at h
  by_cases hc : jl3 a b c
  · rw [if_pos hc] at h
    obtain rfl := Option.some.inj h
    exact Jid.Put_any a b c hc.1 hc.2.1 hc.2.2 w
  · rw [if_neg hc] at h; cases h
def jid_Bare.f (a b c : ByteArray) : Option (ByteArray × ByteArray × ByteArray) := some (a, b, ⟨#[]⟩)
theorem jid_Bare.calls (a b c r1 r2 r3 : ByteArray) (w : World) (h : jid_Bare.f a b c = some (r1, r2, r3)) :
    Calls Tryd.prog 20 #[.agg #[.string a, .string b, .string c]] w fun e w' => e = .returned (.agg #[.string r1, .string r2, .string r3]) ∧ Below w.heap.size w w' := by
  unfold jid_Bare.f at h
  obtain ⟨rfl, h2⟩ := Prod.mk.inj (Option.some.inj h)
  obtain ⟨rfl, rfl⟩ := Prod.mk.inj h2
  exact Jid.Bare_any a b c w
def jid_With.f (a b c d : ByteArray) : Option (ByteArray × ByteArray × ByteArray) := some (a, b, d)
theorem jid_With.calls (a b c d r1 r2 r3 : ByteArray) (w : World) (h : jid_With.f a b c d = some (r1, r2, r3)) :
    Calls Tryd.prog 22 #[.agg #[.string a, .string b, .string c], .string d] w fun e w' => e = .returned (.agg #[.string r1, .string r2, .string r3]) ∧ Below w.heap.size w w' := by
  unfold jid_With.f at h
  obtain ⟨rfl, h2⟩ := Prod.mk.inj (Option.some.inj h)
  obtain ⟨rfl, rfl⟩ := Prod.mk.inj h2
  exact Jid.With_any a b c d w
/-- What a parse comes to. -/
def pOut (o : Option J) : ByteArray × ByteArray × ByteArray × Int := match o with | some j => (⟨j.n.toArray⟩, ⟨j.d.toArray⟩, ⟨j.r.toArray⟩, 0) | none => (⟨#[]⟩, ⟨#[]⟩, ⟨#[]⟩, 30)
def jid_Parse.f (s : ByteArray) : Option (ByteArray × ByteArray × ByteArray × Int) := if s.size ≤ jl then some (pOut (parse s.data.toList)) else none
theorem jid_Parse.calls (s r1 r2 r3 : ByteArray) (r4 : Int) (w : World) (h : jid_Parse.f s = some (r1, r2, r3, r4)) :
    Calls Tryd.prog 10 #[.string s] w fun e w' => e = .returned (.tuple #[.agg #[.string r1, .string r2, .string r3], .int .i64 r4]) ∧ Below w.heap.size w w' := by
  unfold jid_Parse.f at h
  by_cases hc : s.size ≤ jl
  · rw [if_pos hc] at h
    have hp := Jid.Parse_any s hc w
    unfold Jid.parseV at hp
    cases hq : parse s.data.toList with
    | none =>
      rw [hq] at h hp
      obtain ⟨rfl, h2⟩ := Prod.mk.inj (Option.some.inj h)
      obtain ⟨rfl, h3⟩ := Prod.mk.inj h2
      obtain ⟨rfl, rfl⟩ := Prod.mk.inj h3
      exact hp
    | some j =>
      rw [hq] at h hp
      obtain ⟨rfl, h2⟩ := Prod.mk.inj (Option.some.inj h)
      obtain ⟨rfl, h3⟩ := Prod.mk.inj h2
      obtain ⟨rfl, rfl⟩ := Prod.mk.inj h3
      exact hp
  · rw [if_neg hc] at h; cases h
def wharfref03_Is.f (a b c : ByteArray) : Option Bool := if jl3 a b c then some (ok (Jid.jOf a b c)) else none
theorem wharfref03_Is.calls (a b c : ByteArray) (r : Bool) (w : World) (h : wharfref03_Is.f a b c = some r) :
    Calls Tryd.prog 15 #[.agg #[.string a, .string b, .string c]] w fun e w' => e = .returned (.bool r) ∧ Below w.heap.size w w' := by
  unfold wharfref03_Is.f at h
  by_cases hc : jl3 a b c
  · rw [if_pos hc] at h
    obtain rfl := Option.some.inj h
    exact Jid.RIs_any a b c hc.1 hc.2.1 hc.2.2 w
  · rw [if_neg hc] at h; cases h
def wharfref03_Put.f (a b c : ByteArray) : Option ByteArray := if jl3 a b c then some (Jid.putB a b c) else none
theorem wharfref03_Put.calls (a b c : ByteArray) (r : ByteArray) (w : World) (h : wharfref03_Put.f a b c = some r) :
    Calls Tryd.prog 17 #[.agg #[.string a, .string b, .string c]] w fun e w' => e = .returned (.string r) ∧ Below w.heap.size w w' := by
  unfold wharfref03_Put.f at h
  by_cases hc : jl3 a b c
  · rw [if_pos hc] at h
    obtain rfl := Option.some.inj h
    exact Jid.RPut_any a b c hc.1 hc.2.1 hc.2.2 w
  · rw [if_neg hc] at h; cases h
def wharfref03_Norm.f (a b c : ByteArray) : Option (ByteArray × ByteArray × ByteArray) := if jl3 a b c then some (⟨(a.data.toList.map Gly.low).toArray⟩, ⟨(trimPoint (b.data.toList.map Gly.low)).toArray⟩, c) else none
theorem wharfref03_Norm.calls (a b c r1 r2 r3 : ByteArray) (w : World) (h : wharfref03_Norm.f a b c = some (r1, r2, r3)) :
    Calls Tryd.prog 19 #[.agg #[.string a, .string b, .string c]] w fun e w' => e = .returned (.agg #[.string r1, .string r2, .string r3]) ∧ Below w.heap.size w w' := by
  unfold wharfref03_Norm.f at h
  by_cases hc : jl3 a b c
  · rw [if_pos hc] at h
    refine Ra.wharfref03_Norm.calls a b c r1 r2 r3 w ?_
    have h1 := hc.1
    have h2 := hc.2.1
    unfold jl at h1 h2
    rw [RaP.norm_eq a b c (by unfold lim; omega) (by unfold lim; omega)]
    exact h
  · rw [if_neg hc] at h; cases h
def wharfref03_Bare.f (a b c : ByteArray) : Option (ByteArray × ByteArray × ByteArray) := some (a, b, ⟨#[]⟩)
theorem wharfref03_Bare.calls (a b c r1 r2 r3 : ByteArray) (w : World) (h : wharfref03_Bare.f a b c = some (r1, r2, r3)) :
    Calls Tryd.prog 21 #[.agg #[.string a, .string b, .string c]] w fun e w' => e = .returned (.agg #[.string r1, .string r2, .string r3]) ∧ Below w.heap.size w w' :=
  Ra.wharfref03_Bare.calls a b c r1 r2 r3 w h
def wharfref03_first.f (s : ByteArray) (c : Int) : Option Int := if s.size ≤ jl ∧ 0 ≤ c ∧ c < 256 then some (RaP.place (UInt8.ofNat c.toNat) s.data.toList) else none
theorem wharfref03_first.calls (s : ByteArray) (c : Int) (r : Int) (w : World) (h : wharfref03_first.f s c = some r) :
    Calls Tryd.prog 25 #[.string s, .int .u8 c] w fun e w' => e = .returned (.int .i64 r) ∧ Below w.heap.size w w' := by
  unfold wharfref03_first.f at h
  by_cases hc : s.size ≤ jl ∧ 0 ≤ c ∧ c < 256
  · rw [if_pos hc] at h
    obtain rfl := Option.some.inj h
    have h1 := hc.1
    unfold jl at h1
    obtain ⟨k, hk⟩ := (RaP.first3_ev s (UInt8.ofNat c.toNat) (by omega)).rounds
    have hcc : ((UInt8.ofNat c.toNat).toNat : Int) = c := by rw [UInt8.toNat_ofNat']; omega
    rw [hcc] at hk
    exact (Ra.wharfref03_first.calls k s c _ w hk).mono fun e w' ⟨h1, h2⟩ => ⟨h1, h2.below⟩
  · rw [if_neg hc] at h; cases h
def wharflaw03_live.f : Option Bool := some true
theorem wharflaw03_live.calls (r : Bool) (w : World) (h : wharflaw03_live.f = some r) :
    Calls Tryd.prog 9 #[] w fun e w' => e = .returned (.bool r) ∧ Below w.heap.size w w' := by
  obtain rfl := Option.some.inj h
  exact Jid.live_any w
end Go.Proofs.YthifpbaebbodoaaDoor.F
