/- Contracts of functions of this translation, and what they come to; what is not used is left out. -/
import Derived.Test.YtpjkbamkaicoiaaDoorYSesH0
import Derived.Test.YtpjkbamkaicoiaaDoorYg3
import Derived.Test.YtpjkbamkaicoiaaDoorYg5
import Derived.Test.YtpjkbamkaicoiaaDoorYBox
import Derived.Test.YtpjkbamkaicoiaaDoorYCls
import Derived.Test.YtpjkbamkaicoiaaDoorYUtil
import Derived.Test.YtpjkbamkaicoiaaDoorYg4

section
/- wharfref14.Weight: some number. -/
set_option linter.unusedVariables false
set_option linter.unusedSimpArgs false
set_option maxRecDepth 100000
namespace Go.Proofs.YtpjkbamkaicoiaaDoor.Ses
open Go.RowKit U
abbrev NCL (nk : Int) (nn nt nd : ByteArray) (nc ns ni nm : Int) (nok : Bool) (ia : Option Addr) (il ic : Nat) (ja : Option Addr) (jl jc : Nat) : Array Value := #[.int .i64 nk, .string nn, .string nt, .string nd, .int .i64 nc, .int .i64 ns, .int .i64 ni, .int .i64 nm, .bool nok, .slice ia il ic, .slice ja jl jc]
set_option maxHeartbeats 4000000 in
theorem Weight_some (nk : Int) (nn nt nd : ByteArray) (nc ns ni nm : Int) (nok : Bool) (ia : Option Addr) (il ic : Nat) (ja : Option Addr) (jl jc : Nat) (m : Int) (w : World) (hI : Items w ia il) (hl : il ≤ 9223372036854775807) (z1 : nn.size ≤ RB) (z2 : nt.size ≤ RB) (z3 : nd.size ≤ RB) (z4 : jl ≤ RB) (hm0 : m ≤ 1000000) :
    Calls Tryd.prog 12 #[.agg (NCL nk nn nt nd nc ns ni nm nok ia il ic ja jl jc), .int .i64 m] w fun e w' => (∃ r : Int, e = .returned (.int .i64 r) ∧ (nd.size : Int) ≤ r) ∧ Own w [] w' := by
  unfold RB at z1 z2 z3 z4
  obtain ⟨g, hg⟩ : ∃ g, g = w.heap.size := ⟨_, rfl⟩
  have H0 : Hid (Own w [(g, 37, NCL nk nn nt nd nc ns ni nm nok ia il ic ja jl jc)] (w.alloc (.cells (NCL nk nn nt nd nc ns ni nm nok ia il ic ja jl jc) 37))) := Lib.hid ((Own.start w).alloc _ _ hg)
  have HI := Lib.hid hI
  clear hI
  go_enter Tryd.func12, Tryd.ntmps12
  go_wp2
  rw [← hg]
  clear hg
  go_loopw [5, 6] (fun v i wr => ∃ (k : Nat) (acc : Int), k ≤ il ∧ i = .int .i64 k ∧ v = .int .i64 acc ∧ (nd.size : Int) ≤ acc ∧ acc ≤ 1000000000000000000 ∧ Hid (Own w [(g, 37, NCL nk nn nt nd nc ns ni nm nok ia il ic ja jl jc)] wr)) (fun _ i _ => il - (intOf i).toNat)
  case atStart => exact ⟨0, _, by omega, rfl, rfl, by omega, by omega, H0⟩
  case round =>
    clear H0
    obtain ⟨k, acc, hk, rfl, rfl, ha1, ha2, HO⟩ := hrel
    have c9 := HO.out.cell 0 9 rfl rfl
    by_cases hlt : k < il
    · by_cases hm : acc ≤ m
      · go_wp2
        obtain ⟨ad, a, b, rfl, hit, za, zb⟩ := (HI.out.below HO.out.low) k hlt
        unfold RB at za zb
        have HT := Lib.hid hit
        clear hit c9
        obtain ⟨S, MK, UN⟩ : ∃ S : World → Prop, Hid (∀ x, Own w [(g, 37, NCL nk nn nt nd nc ns ni nm nok (some ad) il ic ja jl jc)] x ∧ ItemAt x ad k a b → S x) ∧ Hid (∀ x, S x → Own w [(g, 37, NCL nk nn nt nd nc ns ni nm nok (some ad) il ic ja jl jc)] x ∧ ItemAt x ad k a b) := ⟨_, Lib.hid (fun _ h => h), Lib.hid (fun _ h => h)⟩
        have p9 : ∀ x : U.In S, x.w.cell? ⟨g, 9, none⟩ = some (.slice (some ad) il ic) := fun x => (UN.out _ x.h).1.cell 0 9 rfl rfl
        have q0 : ∀ x : U.In S, x.w.cell? (ad.add (k * 6)) = some (.string a) := fun x => (UN.out _ x.h).2.c0
        have q4 : ∀ x : U.In S, x.w.cell? ⟨(ad.add (k * 6)).block, (ad.add (k * 6)).off + 4, none⟩ = some (.string b) := fun x => (UN.out _ x.h).2.c4
        have HS : Hid (S wr.drew) := Lib.hid (MK.out _ ⟨HO.out.drew, HT.out.below (U.below_drewN (Below.refl _ _) 1)⟩)
        haveI : Nonempty (U.In S) := ⟨⟨_, HS.out⟩⟩
        refine U.region_in (S := S) (by kernel_rfl) (by kernel_rfl) HS.out ?_
        repeat (go_big_quiet_step (fail))
        refine wpQuiet_nil ?_
        intro w9 h9
        have H9 := Lib.hid (UN.out _ h9)
        clear h9 this HS p9 q0 q4 MK UN HT
        go_wp2
        go_roundw
        case rel => exact ⟨k + 1, _, by omega, by go_num, rfl, by omega, by omega, Lib.hid H9.out.1⟩
        case measure => simp [intOf]; omega
      · go_wp2
        go_ret
        exact ⟨⟨_, rfl, ha1⟩, HO.out.pick [] (by decide)⟩
    · go_wp2
      go_ret
      exact ⟨⟨_, rfl, ha1⟩, HO.out.pick [] (by decide)⟩
end Go.Proofs.YtpjkbamkaicoiaaDoor.Ses
end
