/- A number's digits: payload.digits, whatever number it is given. -/
import Derived.Test.YtakfoidmabendaaDoorEvR
import Derived.Test.YtakfoidmabendaaDoorProg
import Derived.KernelRfl
set_option linter.unusedVariables false
set_option linter.unusedSimpArgs false
namespace Go.Proofs.YtakfoidmabendaaDoor.Pay
open Go.RowKit Go.Proofs.YtakfoidmabendaaDoor.E
theorem mixed : Tryd.prog.follows .mixedOrders = true := by kernel_rfl
def none2 (_ : FuncId) (_ : Array Value) : Option Value := none
/-- What is left of a number behind so many digits. -/
def fq (n : Int) : Nat → Int
  | 0 => if 0 > n then 0 else n
  | k + 1 => IntKind.i64.wrap ((fq n k).tdiv 10)
/-- A digit. -/
def ch (x : Int) : UInt8 := UInt8.ofNat (IntKind.u8.wrap (IntKind.i64.wrap (48 + x.tmod 10))).toNat
def dlq (n : Int) : Nat → Nat → List UInt8 → List UInt8
  | 0, k, acc => ch (fq n k) :: acc
  | f + 1, k, acc => if fq n (k + 1) > 0 then dlq n f (k + 1) (ch (fq n k) :: acc) else ch (fq n k) :: acc
theorem dlq_cons (n : Int) : ∀ (f k : Nat) (acc : List UInt8), ∃ c l, dlq n f k acc = c :: l
  | 0, k, acc => ⟨_, _, rfl⟩
  | f + 1, k, acc => by
    unfold dlq
    split
    · exact dlq_cons n f (k + 1) _
    · exact ⟨_, _, rfl⟩
/-- A number's digits. -/
def dl (n : Int) : List UInt8 := dlq n 19 0 []
def hd (n : Int) : UInt8 := (dl n).headD 48
def tl (n : Int) : List UInt8 := (dl n).tail
theorem dl_eq (n : Int) : hd n :: tl n = dl n := by
  obtain ⟨c, l, h⟩ := dlq_cons n 19 0 []
  simp [hd, tl, dl, h]
def D (n : Int) : ByteArray := ⟨(hd n :: tl n).toArray⟩
theorem D_eq (n : Int) : D n = ⟨(dl n).toArray⟩ := by rw [D, dl_eq]
theorem fq_lt (n : Int) (k : Nat) : fq n (k + 1) < 9223372036854775808 := by
  have : ∀ x, IntKind.i64.wrap x < 9223372036854775808 := fun x => by rw [IntKind.wrap_i64]; omega
  exact this _
theorem fq_step (n : Int) (k : Nat) (h : fq n (k + 1) > 0) : fq n (k + 2) = fq n (k + 1) / 10 := by
  have hl := fq_lt n k
  show IntKind.i64.wrap ((fq n (k + 1)).tdiv 10) = _
  rw [Int.tdiv_eq_ediv_of_nonneg (by omega), IntKind.wrap_i64]
  omega
theorem fq_end (n : Int) (h : ∀ k, k < 20 → fq n (k + 1) > 0) : False := by
  have e0 := fq_step n 0 (h 0 (by decide))
  have e1 := fq_step n 1 (h 1 (by decide))
  have e2 := fq_step n 2 (h 2 (by decide))
  have e3 := fq_step n 3 (h 3 (by decide))
  have e4 := fq_step n 4 (h 4 (by decide))
  have e5 := fq_step n 5 (h 5 (by decide))
  have e6 := fq_step n 6 (h 6 (by decide))
  have e7 := fq_step n 7 (h 7 (by decide))
  have e8 := fq_step n 8 (h 8 (by decide))
  have e9 := fq_step n 9 (h 9 (by decide))
  have e10 := fq_step n 10 (h 10 (by decide))
  have e11 := fq_step n 11 (h 11 (by decide))
  have e12 := fq_step n 12 (h 12 (by decide))
  have e13 := fq_step n 13 (h 13 (by decide))
  have e14 := fq_step n 14 (h 14 (by decide))
  have e15 := fq_step n 15 (h 15 (by decide))
  have e16 := fq_step n 16 (h 16 (by decide))
  have e17 := fq_step n 17 (h 17 (by decide))
  have e18 := fq_step n 18 (h 18 (by decide))
  have hl := fq_lt n 0
  have h19 := h 19 (by decide)
  simp only [Nat.zero_add, Nat.reduceAdd] at *
  omega

theorem digits_any (n : Int) (w : World) : Calls Tryd.prog 42 #[.int .i64 n] w fun e w' => e = .returned (.string (D n)) ∧ Below w.heap.size w w' := by
  rw [D_eq]
  have out : ∀ {v : Value} {p : Prot → List Prop} {ora : List (Nat × Ora)}, (∀ Fr, outc Tryd.prog false none2 Fr 64 100000 60 42 #[.int .i64 n] ora = some (v, p Fr)) → (∀ Fr, All (p Fr)) → plain 6 v = true →
      Calls Tryd.prog 42 #[.int .i64 n] w fun e w' => e = .returned v ∧ Below w.heap.size w w' :=
    fun h hn hp => calls_out mixed (fun f a v h => by cases h) h hn hp rfl w
  by_cases h1 : fq n 1 > 0
  case neg =>
    have e : dl n = [ch (fq n 0)] := by
      unfold dl
      rw [dlq, if_neg h1]
    rw [e]
    exact out (v := .string ⟨[ch (fq n 0)].toArray⟩) (ora := [(17, .bit false)]) (p := fun _ => [decide (fq n 1 > 0) = false]) (fun Fr => by kernel_rfl) (fun _ => all_cons (decide_eq_false h1) (all_nil)) rfl
  case pos =>
    by_cases h2 : fq n 2 > 0
    case neg =>
      have e : dl n = [ch (fq n 1), ch (fq n 0)] := by
        unfold dl
        rw [dlq, if_pos h1]
        rw [dlq, if_neg h2]
      rw [e]
      exact out (v := .string ⟨[ch (fq n 1), ch (fq n 0)].toArray⟩) (ora := [(17, .bit true), (10, .bit false)]) (p := fun _ => [decide (fq n 1 > 0) = true, decide (fq n 2 > 0) = false]) (fun Fr => by kernel_rfl) (fun _ => all_cons (decide_eq_true h1) (all_cons (decide_eq_false h2) (all_nil))) rfl
    case pos =>
      by_cases h3 : fq n 3 > 0
      case neg =>
        have e : dl n = [ch (fq n 2), ch (fq n 1), ch (fq n 0)] := by
          unfold dl
          rw [dlq, if_pos h1]
          rw [dlq, if_pos h2]
          rw [dlq, if_neg h3]
        rw [e]
        exact out (v := .string ⟨[ch (fq n 2), ch (fq n 1), ch (fq n 0)].toArray⟩) (ora := [(17, .bit true), (10, .bit true), (10, .bit false)]) (p := fun _ => [decide (fq n 1 > 0) = true, decide (fq n 2 > 0) = true, decide (fq n 3 > 0) = false]) (fun Fr => by kernel_rfl) (fun _ => all_cons (decide_eq_true h1) (all_cons (decide_eq_true h2) (all_cons (decide_eq_false h3) (all_nil)))) rfl
      case pos =>
        by_cases h4 : fq n 4 > 0
        case neg =>
          have e : dl n = [ch (fq n 3), ch (fq n 2), ch (fq n 1), ch (fq n 0)] := by
            unfold dl
            rw [dlq, if_pos h1]
            rw [dlq, if_pos h2]
            rw [dlq, if_pos h3]
            rw [dlq, if_neg h4]
          rw [e]
          exact out (v := .string ⟨[ch (fq n 3), ch (fq n 2), ch (fq n 1), ch (fq n 0)].toArray⟩) (ora := [(17, .bit true), (10, .bit true), (10, .bit true), (10, .bit false)]) (p := fun _ => [decide (fq n 1 > 0) = true, decide (fq n 2 > 0) = true, decide (fq n 3 > 0) = true, decide (fq n 4 > 0) = false]) (fun Fr => by kernel_rfl) (fun _ => all_cons (decide_eq_true h1) (all_cons (decide_eq_true h2) (all_cons (decide_eq_true h3) (all_cons (decide_eq_false h4) (all_nil))))) rfl
        case pos =>
          by_cases h5 : fq n 5 > 0
          case neg =>
            have e : dl n = [ch (fq n 4), ch (fq n 3), ch (fq n 2), ch (fq n 1), ch (fq n 0)] := by
              unfold dl
              rw [dlq, if_pos h1]
              rw [dlq, if_pos h2]
              rw [dlq, if_pos h3]
              rw [dlq, if_pos h4]
              rw [dlq, if_neg h5]
            rw [e]
            exact out (v := .string ⟨[ch (fq n 4), ch (fq n 3), ch (fq n 2), ch (fq n 1), ch (fq n 0)].toArray⟩) (ora := [(17, .bit true), (10, .bit true), (10, .bit true), (10, .bit true), (10, .bit false)]) (p := fun _ => [decide (fq n 1 > 0) = true, decide (fq n 2 > 0) = true, decide (fq n 3 > 0) = true, decide (fq n 4 > 0) = true, decide (fq n 5 > 0) = false]) (fun Fr => by kernel_rfl) (fun _ => all_cons (decide_eq_true h1) (all_cons (decide_eq_true h2) (all_cons (decide_eq_true h3) (all_cons (decide_eq_true h4) (all_cons (decide_eq_false h5) (all_nil)))))) rfl
          case pos =>
            by_cases h6 : fq n 6 > 0
            case neg =>
              have e : dl n = [ch (fq n 5), ch (fq n 4), ch (fq n 3), ch (fq n 2), ch (fq n 1), ch (fq n 0)] := by
                unfold dl
                rw [dlq, if_pos h1]
                rw [dlq, if_pos h2]
                rw [dlq, if_pos h3]
                rw [dlq, if_pos h4]
                rw [dlq, if_pos h5]
                rw [dlq, if_neg h6]
              rw [e]
              exact out (v := .string ⟨[ch (fq n 5), ch (fq n 4), ch (fq n 3), ch (fq n 2), ch (fq n 1), ch (fq n 0)].toArray⟩) (ora := [(17, .bit true), (10, .bit true), (10, .bit true), (10, .bit true), (10, .bit true), (10, .bit false)]) (p := fun _ => [decide (fq n 1 > 0) = true, decide (fq n 2 > 0) = true, decide (fq n 3 > 0) = true, decide (fq n 4 > 0) = true, decide (fq n 5 > 0) = true, decide (fq n 6 > 0) = false]) (fun Fr => by kernel_rfl) (fun _ => all_cons (decide_eq_true h1) (all_cons (decide_eq_true h2) (all_cons (decide_eq_true h3) (all_cons (decide_eq_true h4) (all_cons (decide_eq_true h5) (all_cons (decide_eq_false h6) (all_nil))))))) rfl
            case pos =>
              by_cases h7 : fq n 7 > 0
              case neg =>
                have e : dl n = [ch (fq n 6), ch (fq n 5), ch (fq n 4), ch (fq n 3), ch (fq n 2), ch (fq n 1), ch (fq n 0)] := by
                  unfold dl
                  rw [dlq, if_pos h1]
                  rw [dlq, if_pos h2]
                  rw [dlq, if_pos h3]
                  rw [dlq, if_pos h4]
                  rw [dlq, if_pos h5]
                  rw [dlq, if_pos h6]
                  rw [dlq, if_neg h7]
                rw [e]
                exact out (v := .string ⟨[ch (fq n 6), ch (fq n 5), ch (fq n 4), ch (fq n 3), ch (fq n 2), ch (fq n 1), ch (fq n 0)].toArray⟩) (ora := [(17, .bit true), (10, .bit true), (10, .bit true), (10, .bit true), (10, .bit true), (10, .bit true), (10, .bit false)]) (p := fun _ => [decide (fq n 1 > 0) = true, decide (fq n 2 > 0) = true, decide (fq n 3 > 0) = true, decide (fq n 4 > 0) = true, decide (fq n 5 > 0) = true, decide (fq n 6 > 0) = true, decide (fq n 7 > 0) = false]) (fun Fr => by kernel_rfl) (fun _ => all_cons (decide_eq_true h1) (all_cons (decide_eq_true h2) (all_cons (decide_eq_true h3) (all_cons (decide_eq_true h4) (all_cons (decide_eq_true h5) (all_cons (decide_eq_true h6) (all_cons (decide_eq_false h7) (all_nil)))))))) rfl
              case pos =>
                by_cases h8 : fq n 8 > 0
                case neg =>
                  have e : dl n = [ch (fq n 7), ch (fq n 6), ch (fq n 5), ch (fq n 4), ch (fq n 3), ch (fq n 2), ch (fq n 1), ch (fq n 0)] := by
                    unfold dl
                    rw [dlq, if_pos h1]
                    rw [dlq, if_pos h2]
                    rw [dlq, if_pos h3]
                    rw [dlq, if_pos h4]
                    rw [dlq, if_pos h5]
                    rw [dlq, if_pos h6]
                    rw [dlq, if_pos h7]
                    rw [dlq, if_neg h8]
                  rw [e]
                  exact out (v := .string ⟨[ch (fq n 7), ch (fq n 6), ch (fq n 5), ch (fq n 4), ch (fq n 3), ch (fq n 2), ch (fq n 1), ch (fq n 0)].toArray⟩) (ora := [(17, .bit true), (10, .bit true), (10, .bit true), (10, .bit true), (10, .bit true), (10, .bit true), (10, .bit true), (10, .bit false)]) (p := fun _ => [decide (fq n 1 > 0) = true, decide (fq n 2 > 0) = true, decide (fq n 3 > 0) = true, decide (fq n 4 > 0) = true, decide (fq n 5 > 0) = true, decide (fq n 6 > 0) = true, decide (fq n 7 > 0) = true, decide (fq n 8 > 0) = false]) (fun Fr => by kernel_rfl) (fun _ => all_cons (decide_eq_true h1) (all_cons (decide_eq_true h2) (all_cons (decide_eq_true h3) (all_cons (decide_eq_true h4) (all_cons (decide_eq_true h5) (all_cons (decide_eq_true h6) (all_cons (decide_eq_true h7) (all_cons (decide_eq_false h8) (all_nil))))))))) rfl
                case pos =>
                  by_cases h9 : fq n 9 > 0
                  case neg =>
                    have e : dl n = [ch (fq n 8), ch (fq n 7), ch (fq n 6), ch (fq n 5), ch (fq n 4), ch (fq n 3), ch (fq n 2), ch (fq n 1), ch (fq n 0)] := by
                      unfold dl
                      rw [dlq, if_pos h1]
                      rw [dlq, if_pos h2]
                      rw [dlq, if_pos h3]
                      rw [dlq, if_pos h4]
                      rw [dlq, if_pos h5]
                      rw [dlq, if_pos h6]
                      rw [dlq, if_pos h7]
                      rw [dlq, if_pos h8]
                      rw [dlq, if_neg h9]
                    rw [e]
                    exact out (v := .string ⟨[ch (fq n 8), ch (fq n 7), ch (fq n 6), ch (fq n 5), ch (fq n 4), ch (fq n 3), ch (fq n 2), ch (fq n 1), ch (fq n 0)].toArray⟩) (ora := [(17, .bit true), (10, .bit true), (10, .bit true), (10, .bit true), (10, .bit true), (10, .bit true), (10, .bit true), (10, .bit true), (10, .bit false)]) (p := fun _ => [decide (fq n 1 > 0) = true, decide (fq n 2 > 0) = true, decide (fq n 3 > 0) = true, decide (fq n 4 > 0) = true, decide (fq n 5 > 0) = true, decide (fq n 6 > 0) = true, decide (fq n 7 > 0) = true, decide (fq n 8 > 0) = true, decide (fq n 9 > 0) = false]) (fun Fr => by kernel_rfl) (fun _ => all_cons (decide_eq_true h1) (all_cons (decide_eq_true h2) (all_cons (decide_eq_true h3) (all_cons (decide_eq_true h4) (all_cons (decide_eq_true h5) (all_cons (decide_eq_true h6) (all_cons (decide_eq_true h7) (all_cons (decide_eq_true h8) (all_cons (decide_eq_false h9) (all_nil)))))))))) rfl
                  case pos =>
                    by_cases h10 : fq n 10 > 0
                    case neg =>
                      have e : dl n = [ch (fq n 9), ch (fq n 8), ch (fq n 7), ch (fq n 6), ch (fq n 5), ch (fq n 4), ch (fq n 3), ch (fq n 2), ch (fq n 1), ch (fq n 0)] := by
                        unfold dl
                        rw [dlq, if_pos h1]
                        rw [dlq, if_pos h2]
                        rw [dlq, if_pos h3]
                        rw [dlq, if_pos h4]
                        rw [dlq, if_pos h5]
                        rw [dlq, if_pos h6]
                        rw [dlq, if_pos h7]
                        rw [dlq, if_pos h8]
                        rw [dlq, if_pos h9]
                        rw [dlq, if_neg h10]
                      rw [e]
                      exact out (v := .string ⟨[ch (fq n 9), ch (fq n 8), ch (fq n 7), ch (fq n 6), ch (fq n 5), ch (fq n 4), ch (fq n 3), ch (fq n 2), ch (fq n 1), ch (fq n 0)].toArray⟩) (ora := [(17, .bit true), (10, .bit true), (10, .bit true), (10, .bit true), (10, .bit true), (10, .bit true), (10, .bit true), (10, .bit true), (10, .bit true), (10, .bit false)]) (p := fun _ => [decide (fq n 1 > 0) = true, decide (fq n 2 > 0) = true, decide (fq n 3 > 0) = true, decide (fq n 4 > 0) = true, decide (fq n 5 > 0) = true, decide (fq n 6 > 0) = true, decide (fq n 7 > 0) = true, decide (fq n 8 > 0) = true, decide (fq n 9 > 0) = true, decide (fq n 10 > 0) = false]) (fun Fr => by kernel_rfl) (fun _ => all_cons (decide_eq_true h1) (all_cons (decide_eq_true h2) (all_cons (decide_eq_true h3) (all_cons (decide_eq_true h4) (all_cons (decide_eq_true h5) (all_cons (decide_eq_true h6) (all_cons (decide_eq_true h7) (all_cons (decide_eq_true h8) (all_cons (decide_eq_true h9) (all_cons (decide_eq_false h10) (all_nil))))))))))) rfl
                    case pos =>
                      by_cases h11 : fq n 11 > 0
                      case neg =>
                        have e : dl n = [ch (fq n 10), ch (fq n 9), ch (fq n 8), ch (fq n 7), ch (fq n 6), ch (fq n 5), ch (fq n 4), ch (fq n 3), ch (fq n 2), ch (fq n 1), ch (fq n 0)] := by
                          unfold dl
                          rw [dlq, if_pos h1]
                          rw [dlq, if_pos h2]
                          rw [dlq, if_pos h3]
                          rw [dlq, if_pos h4]
                          rw [dlq, if_pos h5]
                          rw [dlq, if_pos h6]
                          rw [dlq, if_pos h7]
                          rw [dlq, if_pos h8]
                          rw [dlq, if_pos h9]
                          rw [dlq, if_pos h10]
                          rw [dlq, if_neg h11]
                        rw [e]
                        exact out (v := .string ⟨[ch (fq n 10), ch (fq n 9), ch (fq n 8), ch (fq n 7), ch (fq n 6), ch (fq n 5), ch (fq n 4), ch (fq n 3), ch (fq n 2), ch (fq n 1), ch (fq n 0)].toArray⟩) (ora := [(17, .bit true), (10, .bit true), (10, .bit true), (10, .bit true), (10, .bit true), (10, .bit true), (10, .bit true), (10, .bit true), (10, .bit true), (10, .bit true), (10, .bit false)]) (p := fun _ => [decide (fq n 1 > 0) = true, decide (fq n 2 > 0) = true, decide (fq n 3 > 0) = true, decide (fq n 4 > 0) = true, decide (fq n 5 > 0) = true, decide (fq n 6 > 0) = true, decide (fq n 7 > 0) = true, decide (fq n 8 > 0) = true, decide (fq n 9 > 0) = true, decide (fq n 10 > 0) = true, decide (fq n 11 > 0) = false]) (fun Fr => by kernel_rfl) (fun _ => all_cons (decide_eq_true h1) (all_cons (decide_eq_true h2) (all_cons (decide_eq_true h3) (all_cons (decide_eq_true h4) (all_cons (decide_eq_true h5) (all_cons (decide_eq_true h6) (all_cons (decide_eq_true h7) (all_cons (decide_eq_true h8) (all_cons (decide_eq_true h9) (all_cons (decide_eq_true h10) (all_cons (decide_eq_false h11) (all_nil)))))))))))) rfl
                      case pos =>
                        by_cases h12 : fq n 12 > 0
                        case neg =>
                          have e : dl n = [ch (fq n 11), ch (fq n 10), ch (fq n 9), ch (fq n 8), ch (fq n 7), ch (fq n 6), ch (fq n 5), ch (fq n 4), ch (fq n 3), ch (fq n 2), ch (fq n 1), ch (fq n 0)] := by
                            unfold dl
                            rw [dlq, if_pos h1]
                            rw [dlq, if_pos h2]
                            rw [dlq, if_pos h3]
                            rw [dlq, if_pos h4]
                            rw [dlq, if_pos h5]
                            rw [dlq, if_pos h6]
                            rw [dlq, if_pos h7]
                            rw [dlq, if_pos h8]
                            rw [dlq, if_pos h9]
                            rw [dlq, if_pos h10]
                            rw [dlq, if_pos h11]
                            rw [dlq, if_neg h12]
                          rw [e]
                          exact out (v := .string ⟨[ch (fq n 11), ch (fq n 10), ch (fq n 9), ch (fq n 8), ch (fq n 7), ch (fq n 6), ch (fq n 5), ch (fq n 4), ch (fq n 3), ch (fq n 2), ch (fq n 1), ch (fq n 0)].toArray⟩) (ora := [(17, .bit true), (10, .bit true), (10, .bit true), (10, .bit true), (10, .bit true), (10, .bit true), (10, .bit true), (10, .bit true), (10, .bit true), (10, .bit true), (10, .bit true), (10, .bit false)]) (p := fun _ => [decide (fq n 1 > 0) = true, decide (fq n 2 > 0) = true, decide (fq n 3 > 0) = true, decide (fq n 4 > 0) = true, decide (fq n 5 > 0) = true, decide (fq n 6 > 0) = true, decide (fq n 7 > 0) = true, decide (fq n 8 > 0) = true, decide (fq n 9 > 0) = true, decide (fq n 10 > 0) = true, decide (fq n 11 > 0) = true, decide (fq n 12 > 0) = false]) (fun Fr => by kernel_rfl) (fun _ => all_cons (decide_eq_true h1) (all_cons (decide_eq_true h2) (all_cons (decide_eq_true h3) (all_cons (decide_eq_true h4) (all_cons (decide_eq_true h5) (all_cons (decide_eq_true h6) (all_cons (decide_eq_true h7) (all_cons (decide_eq_true h8) (all_cons (decide_eq_true h9) (all_cons (decide_eq_true h10) (all_cons (decide_eq_true h11) (all_cons (decide_eq_false h12) (all_nil))))))))))))) rfl
                        case pos =>
                          by_cases h13 : fq n 13 > 0
                          case neg =>
                            have e : dl n = [ch (fq n 12), ch (fq n 11), ch (fq n 10), ch (fq n 9), ch (fq n 8), ch (fq n 7), ch (fq n 6), ch (fq n 5), ch (fq n 4), ch (fq n 3), ch (fq n 2), ch (fq n 1), ch (fq n 0)] := by
                              unfold dl
                              rw [dlq, if_pos h1]
                              rw [dlq, if_pos h2]
                              rw [dlq, if_pos h3]
                              rw [dlq, if_pos h4]
                              rw [dlq, if_pos h5]
                              rw [dlq, if_pos h6]
                              rw [dlq, if_pos h7]
                              rw [dlq, if_pos h8]
                              rw [dlq, if_pos h9]
                              rw [dlq, if_pos h10]
                              rw [dlq, if_pos h11]
                              rw [dlq, if_pos h12]
                              rw [dlq, if_neg h13]
                            rw [e]
                            exact out (v := .string ⟨[ch (fq n 12), ch (fq n 11), ch (fq n 10), ch (fq n 9), ch (fq n 8), ch (fq n 7), ch (fq n 6), ch (fq n 5), ch (fq n 4), ch (fq n 3), ch (fq n 2), ch (fq n 1), ch (fq n 0)].toArray⟩) (ora := [(17, .bit true), (10, .bit true), (10, .bit true), (10, .bit true), (10, .bit true), (10, .bit true), (10, .bit true), (10, .bit true), (10, .bit true), (10, .bit true), (10, .bit true), (10, .bit true), (10, .bit false)]) (p := fun _ => [decide (fq n 1 > 0) = true, decide (fq n 2 > 0) = true, decide (fq n 3 > 0) = true, decide (fq n 4 > 0) = true, decide (fq n 5 > 0) = true, decide (fq n 6 > 0) = true, decide (fq n 7 > 0) = true, decide (fq n 8 > 0) = true, decide (fq n 9 > 0) = true, decide (fq n 10 > 0) = true, decide (fq n 11 > 0) = true, decide (fq n 12 > 0) = true, decide (fq n 13 > 0) = false]) (fun Fr => by kernel_rfl) (fun _ => all_cons (decide_eq_true h1) (all_cons (decide_eq_true h2) (all_cons (decide_eq_true h3) (all_cons (decide_eq_true h4) (all_cons (decide_eq_true h5) (all_cons (decide_eq_true h6) (all_cons (decide_eq_true h7) (all_cons (decide_eq_true h8) (all_cons (decide_eq_true h9) (all_cons (decide_eq_true h10) (all_cons (decide_eq_true h11) (all_cons (decide_eq_true h12) (all_cons (decide_eq_false h13) (all_nil)))))))))))))) rfl
                          case pos =>
                            by_cases h14 : fq n 14 > 0
                            case neg =>
                              have e : dl n = [ch (fq n 13), ch (fq n 12), ch (fq n 11), ch (fq n 10), ch (fq n 9), ch (fq n 8), ch (fq n 7), ch (fq n 6), ch (fq n 5), ch (fq n 4), ch (fq n 3), ch (fq n 2), ch (fq n 1), ch (fq n 0)] := by
                                unfold dl
                                rw [dlq, if_pos h1]
                                rw [dlq, if_pos h2]
                                rw [dlq, if_pos h3]
                                rw [dlq, if_pos h4]
                                rw [dlq, if_pos h5]
                                rw [dlq, if_pos h6]
                                rw [dlq, if_pos h7]
                                rw [dlq, if_pos h8]
                                rw [dlq, if_pos h9]
                                rw [dlq, if_pos h10]
                                rw [dlq, if_pos h11]
                                rw [dlq, if_pos h12]
                                rw [dlq, if_pos h13]
                                rw [dlq, if_neg h14]
                              rw [e]
                              exact out (v := .string ⟨[ch (fq n 13), ch (fq n 12), ch (fq n 11), ch (fq n 10), ch (fq n 9), ch (fq n 8), ch (fq n 7), ch (fq n 6), ch (fq n 5), ch (fq n 4), ch (fq n 3), ch (fq n 2), ch (fq n 1), ch (fq n 0)].toArray⟩) (ora := [(17, .bit true), (10, .bit true), (10, .bit true), (10, .bit true), (10, .bit true), (10, .bit true), (10, .bit true), (10, .bit true), (10, .bit true), (10, .bit true), (10, .bit true), (10, .bit true), (10, .bit true), (10, .bit false)]) (p := fun _ => [decide (fq n 1 > 0) = true, decide (fq n 2 > 0) = true, decide (fq n 3 > 0) = true, decide (fq n 4 > 0) = true, decide (fq n 5 > 0) = true, decide (fq n 6 > 0) = true, decide (fq n 7 > 0) = true, decide (fq n 8 > 0) = true, decide (fq n 9 > 0) = true, decide (fq n 10 > 0) = true, decide (fq n 11 > 0) = true, decide (fq n 12 > 0) = true, decide (fq n 13 > 0) = true, decide (fq n 14 > 0) = false]) (fun Fr => by kernel_rfl) (fun _ => all_cons (decide_eq_true h1) (all_cons (decide_eq_true h2) (all_cons (decide_eq_true h3) (all_cons (decide_eq_true h4) (all_cons (decide_eq_true h5) (all_cons (decide_eq_true h6) (all_cons (decide_eq_true h7) (all_cons (decide_eq_true h8) (all_cons (decide_eq_true h9) (all_cons (decide_eq_true h10) (all_cons (decide_eq_true h11) (all_cons (decide_eq_true h12) (all_cons (decide_eq_true h13) (all_cons (decide_eq_false h14) (all_nil))))))))))))))) rfl
                            case pos =>
                              by_cases h15 : fq n 15 > 0
                              case neg =>
                                have e : dl n = [ch (fq n 14), ch (fq n 13), ch (fq n 12), ch (fq n 11), ch (fq n 10), ch (fq n 9), ch (fq n 8), ch (fq n 7), ch (fq n 6), ch (fq n 5), ch (fq n 4), ch (fq n 3), ch (fq n 2), ch (fq n 1), ch (fq n 0)] := by
                                  unfold dl
                                  rw [dlq, if_pos h1]
                                  rw [dlq, if_pos h2]
                                  rw [dlq, if_pos h3]
                                  rw [dlq, if_pos h4]
                                  rw [dlq, if_pos h5]
                                  rw [dlq, if_pos h6]
                                  rw [dlq, if_pos h7]
                                  rw [dlq, if_pos h8]
                                  rw [dlq, if_pos h9]
                                  rw [dlq, if_pos h10]
                                  rw [dlq, if_pos h11]
                                  rw [dlq, if_pos h12]
                                  rw [dlq, if_pos h13]
                                  rw [dlq, if_pos h14]
                                  rw [dlq, if_neg h15]
                                rw [e]
                                exact out (v := .string ⟨[ch (fq n 14), ch (fq n 13), ch (fq n 12), ch (fq n 11), ch (fq n 10), ch (fq n 9), ch (fq n 8), ch (fq n 7), ch (fq n 6), ch (fq n 5), ch (fq n 4), ch (fq n 3), ch (fq n 2), ch (fq n 1), ch (fq n 0)].toArray⟩) (ora := [(17, .bit true), (10, .bit true), (10, .bit true), (10, .bit true), (10, .bit true), (10, .bit true), (10, .bit true), (10, .bit true), (10, .bit true), (10, .bit true), (10, .bit true), (10, .bit true), (10, .bit true), (10, .bit true), (10, .bit false)]) (p := fun _ => [decide (fq n 1 > 0) = true, decide (fq n 2 > 0) = true, decide (fq n 3 > 0) = true, decide (fq n 4 > 0) = true, decide (fq n 5 > 0) = true, decide (fq n 6 > 0) = true, decide (fq n 7 > 0) = true, decide (fq n 8 > 0) = true, decide (fq n 9 > 0) = true, decide (fq n 10 > 0) = true, decide (fq n 11 > 0) = true, decide (fq n 12 > 0) = true, decide (fq n 13 > 0) = true, decide (fq n 14 > 0) = true, decide (fq n 15 > 0) = false]) (fun Fr => by kernel_rfl) (fun _ => all_cons (decide_eq_true h1) (all_cons (decide_eq_true h2) (all_cons (decide_eq_true h3) (all_cons (decide_eq_true h4) (all_cons (decide_eq_true h5) (all_cons (decide_eq_true h6) (all_cons (decide_eq_true h7) (all_cons (decide_eq_true h8) (all_cons (decide_eq_true h9) (all_cons (decide_eq_true h10) (all_cons (decide_eq_true h11) (all_cons (decide_eq_true h12) (all_cons (decide_eq_true h13) (all_cons (decide_eq_true h14) (all_cons (decide_eq_false h15) (all_nil)))))))))))))))) rfl
                              case pos =>
                                by_cases h16 : fq n 16 > 0
                                case neg =>
                                  have e : dl n = [ch (fq n 15), ch (fq n 14), ch (fq n 13), ch (fq n 12), ch (fq n 11), ch (fq n 10), ch (fq n 9), ch (fq n 8), ch (fq n 7), ch (fq n 6), ch (fq n 5), ch (fq n 4), ch (fq n 3), ch (fq n 2), ch (fq n 1), ch (fq n 0)] := by
                                    unfold dl
                                    rw [dlq, if_pos h1]
                                    rw [dlq, if_pos h2]
                                    rw [dlq, if_pos h3]
                                    rw [dlq, if_pos h4]
                                    rw [dlq, if_pos h5]
                                    rw [dlq, if_pos h6]
                                    rw [dlq, if_pos h7]
                                    rw [dlq, if_pos h8]
                                    rw [dlq, if_pos h9]
                                    rw [dlq, if_pos h10]
                                    rw [dlq, if_pos h11]
                                    rw [dlq, if_pos h12]
                                    rw [dlq, if_pos h13]
                                    rw [dlq, if_pos h14]
                                    rw [dlq, if_pos h15]
                                    rw [dlq, if_neg h16]
                                  rw [e]
                                  exact out (v := .string ⟨[ch (fq n 15), ch (fq n 14), ch (fq n 13), ch (fq n 12), ch (fq n 11), ch (fq n 10), ch (fq n 9), ch (fq n 8), ch (fq n 7), ch (fq n 6), ch (fq n 5), ch (fq n 4), ch (fq n 3), ch (fq n 2), ch (fq n 1), ch (fq n 0)].toArray⟩) (ora := [(17, .bit true), (10, .bit true), (10, .bit true), (10, .bit true), (10, .bit true), (10, .bit true), (10, .bit true), (10, .bit true), (10, .bit true), (10, .bit true), (10, .bit true), (10, .bit true), (10, .bit true), (10, .bit true), (10, .bit true), (10, .bit false)]) (p := fun _ => [decide (fq n 1 > 0) = true, decide (fq n 2 > 0) = true, decide (fq n 3 > 0) = true, decide (fq n 4 > 0) = true, decide (fq n 5 > 0) = true, decide (fq n 6 > 0) = true, decide (fq n 7 > 0) = true, decide (fq n 8 > 0) = true, decide (fq n 9 > 0) = true, decide (fq n 10 > 0) = true, decide (fq n 11 > 0) = true, decide (fq n 12 > 0) = true, decide (fq n 13 > 0) = true, decide (fq n 14 > 0) = true, decide (fq n 15 > 0) = true, decide (fq n 16 > 0) = false]) (fun Fr => by kernel_rfl) (fun _ => all_cons (decide_eq_true h1) (all_cons (decide_eq_true h2) (all_cons (decide_eq_true h3) (all_cons (decide_eq_true h4) (all_cons (decide_eq_true h5) (all_cons (decide_eq_true h6) (all_cons (decide_eq_true h7) (all_cons (decide_eq_true h8) (all_cons (decide_eq_true h9) (all_cons (decide_eq_true h10) (all_cons (decide_eq_true h11) (all_cons (decide_eq_true h12) (all_cons (decide_eq_true h13) (all_cons (decide_eq_true h14) (all_cons (decide_eq_true h15) (all_cons (decide_eq_false h16) (all_nil))))))))))))))))) rfl
                                case pos =>
                                  by_cases h17 : fq n 17 > 0
                                  case neg =>
                                    have e : dl n = [ch (fq n 16), ch (fq n 15), ch (fq n 14), ch (fq n 13), ch (fq n 12), ch (fq n 11), ch (fq n 10), ch (fq n 9), ch (fq n 8), ch (fq n 7), ch (fq n 6), ch (fq n 5), ch (fq n 4), ch (fq n 3), ch (fq n 2), ch (fq n 1), ch (fq n 0)] := by
                                      unfold dl
                                      rw [dlq, if_pos h1]
                                      rw [dlq, if_pos h2]
                                      rw [dlq, if_pos h3]
                                      rw [dlq, if_pos h4]
                                      rw [dlq, if_pos h5]
                                      rw [dlq, if_pos h6]
                                      rw [dlq, if_pos h7]
                                      rw [dlq, if_pos h8]
                                      rw [dlq, if_pos h9]
                                      rw [dlq, if_pos h10]
                                      rw [dlq, if_pos h11]
                                      rw [dlq, if_pos h12]
                                      rw [dlq, if_pos h13]
                                      rw [dlq, if_pos h14]
                                      rw [dlq, if_pos h15]
                                      rw [dlq, if_pos h16]
                                      rw [dlq, if_neg h17]
                                    rw [e]
                                    exact out (v := .string ⟨[ch (fq n 16), ch (fq n 15), ch (fq n 14), ch (fq n 13), ch (fq n 12), ch (fq n 11), ch (fq n 10), ch (fq n 9), ch (fq n 8), ch (fq n 7), ch (fq n 6), ch (fq n 5), ch (fq n 4), ch (fq n 3), ch (fq n 2), ch (fq n 1), ch (fq n 0)].toArray⟩) (ora := [(17, .bit true), (10, .bit true), (10, .bit true), (10, .bit true), (10, .bit true), (10, .bit true), (10, .bit true), (10, .bit true), (10, .bit true), (10, .bit true), (10, .bit true), (10, .bit true), (10, .bit true), (10, .bit true), (10, .bit true), (10, .bit true), (10, .bit false)]) (p := fun _ => [decide (fq n 1 > 0) = true, decide (fq n 2 > 0) = true, decide (fq n 3 > 0) = true, decide (fq n 4 > 0) = true, decide (fq n 5 > 0) = true, decide (fq n 6 > 0) = true, decide (fq n 7 > 0) = true, decide (fq n 8 > 0) = true, decide (fq n 9 > 0) = true, decide (fq n 10 > 0) = true, decide (fq n 11 > 0) = true, decide (fq n 12 > 0) = true, decide (fq n 13 > 0) = true, decide (fq n 14 > 0) = true, decide (fq n 15 > 0) = true, decide (fq n 16 > 0) = true, decide (fq n 17 > 0) = false]) (fun Fr => by kernel_rfl) (fun _ => all_cons (decide_eq_true h1) (all_cons (decide_eq_true h2) (all_cons (decide_eq_true h3) (all_cons (decide_eq_true h4) (all_cons (decide_eq_true h5) (all_cons (decide_eq_true h6) (all_cons (decide_eq_true h7) (all_cons (decide_eq_true h8) (all_cons (decide_eq_true h9) (all_cons (decide_eq_true h10) (all_cons (decide_eq_true h11) (all_cons (decide_eq_true h12) (all_cons (decide_eq_true h13) (all_cons (decide_eq_true h14) (all_cons (decide_eq_true h15) (all_cons (decide_eq_true h16) (all_cons (decide_eq_false h17) (all_nil)))))))))))))))))) rfl
                                  case pos =>
                                    by_cases h18 : fq n 18 > 0
                                    case neg =>
                                      have e : dl n = [ch (fq n 17), ch (fq n 16), ch (fq n 15), ch (fq n 14), ch (fq n 13), ch (fq n 12), ch (fq n 11), ch (fq n 10), ch (fq n 9), ch (fq n 8), ch (fq n 7), ch (fq n 6), ch (fq n 5), ch (fq n 4), ch (fq n 3), ch (fq n 2), ch (fq n 1), ch (fq n 0)] := by
                                        unfold dl
                                        rw [dlq, if_pos h1]
                                        rw [dlq, if_pos h2]
                                        rw [dlq, if_pos h3]
                                        rw [dlq, if_pos h4]
                                        rw [dlq, if_pos h5]
                                        rw [dlq, if_pos h6]
                                        rw [dlq, if_pos h7]
                                        rw [dlq, if_pos h8]
                                        rw [dlq, if_pos h9]
                                        rw [dlq, if_pos h10]
                                        rw [dlq, if_pos h11]
                                        rw [dlq, if_pos h12]
                                        rw [dlq, if_pos h13]
                                        rw [dlq, if_pos h14]
                                        rw [dlq, if_pos h15]
                                        rw [dlq, if_pos h16]
                                        rw [dlq, if_pos h17]
                                        rw [dlq, if_neg h18]
                                      rw [e]
                                      exact out (v := .string ⟨[ch (fq n 17), ch (fq n 16), ch (fq n 15), ch (fq n 14), ch (fq n 13), ch (fq n 12), ch (fq n 11), ch (fq n 10), ch (fq n 9), ch (fq n 8), ch (fq n 7), ch (fq n 6), ch (fq n 5), ch (fq n 4), ch (fq n 3), ch (fq n 2), ch (fq n 1), ch (fq n 0)].toArray⟩) (ora := [(17, .bit true), (10, .bit true), (10, .bit true), (10, .bit true), (10, .bit true), (10, .bit true), (10, .bit true), (10, .bit true), (10, .bit true), (10, .bit true), (10, .bit true), (10, .bit true), (10, .bit true), (10, .bit true), (10, .bit true), (10, .bit true), (10, .bit true), (10, .bit false)]) (p := fun _ => [decide (fq n 1 > 0) = true, decide (fq n 2 > 0) = true, decide (fq n 3 > 0) = true, decide (fq n 4 > 0) = true, decide (fq n 5 > 0) = true, decide (fq n 6 > 0) = true, decide (fq n 7 > 0) = true, decide (fq n 8 > 0) = true, decide (fq n 9 > 0) = true, decide (fq n 10 > 0) = true, decide (fq n 11 > 0) = true, decide (fq n 12 > 0) = true, decide (fq n 13 > 0) = true, decide (fq n 14 > 0) = true, decide (fq n 15 > 0) = true, decide (fq n 16 > 0) = true, decide (fq n 17 > 0) = true, decide (fq n 18 > 0) = false]) (fun Fr => by kernel_rfl) (fun _ => all_cons (decide_eq_true h1) (all_cons (decide_eq_true h2) (all_cons (decide_eq_true h3) (all_cons (decide_eq_true h4) (all_cons (decide_eq_true h5) (all_cons (decide_eq_true h6) (all_cons (decide_eq_true h7) (all_cons (decide_eq_true h8) (all_cons (decide_eq_true h9) (all_cons (decide_eq_true h10) (all_cons (decide_eq_true h11) (all_cons (decide_eq_true h12) (all_cons (decide_eq_true h13) (all_cons (decide_eq_true h14) (all_cons (decide_eq_true h15) (all_cons (decide_eq_true h16) (all_cons (decide_eq_true h17) (all_cons (decide_eq_false h18) (all_nil))))))))))))))))))) rfl
                                    case pos =>
                                      by_cases h19 : fq n 19 > 0
                                      case neg =>
                                        have e : dl n = [ch (fq n 18), ch (fq n 17), ch (fq n 16), ch (fq n 15), ch (fq n 14), ch (fq n 13), ch (fq n 12), ch (fq n 11), ch (fq n 10), ch (fq n 9), ch (fq n 8), ch (fq n 7), ch (fq n 6), ch (fq n 5), ch (fq n 4), ch (fq n 3), ch (fq n 2), ch (fq n 1), ch (fq n 0)] := by
                                          unfold dl
                                          rw [dlq, if_pos h1]
                                          rw [dlq, if_pos h2]
                                          rw [dlq, if_pos h3]
                                          rw [dlq, if_pos h4]
                                          rw [dlq, if_pos h5]
                                          rw [dlq, if_pos h6]
                                          rw [dlq, if_pos h7]
                                          rw [dlq, if_pos h8]
                                          rw [dlq, if_pos h9]
                                          rw [dlq, if_pos h10]
                                          rw [dlq, if_pos h11]
                                          rw [dlq, if_pos h12]
                                          rw [dlq, if_pos h13]
                                          rw [dlq, if_pos h14]
                                          rw [dlq, if_pos h15]
                                          rw [dlq, if_pos h16]
                                          rw [dlq, if_pos h17]
                                          rw [dlq, if_pos h18]
                                          rw [dlq, if_neg h19]
                                        rw [e]
                                        exact out (v := .string ⟨[ch (fq n 18), ch (fq n 17), ch (fq n 16), ch (fq n 15), ch (fq n 14), ch (fq n 13), ch (fq n 12), ch (fq n 11), ch (fq n 10), ch (fq n 9), ch (fq n 8), ch (fq n 7), ch (fq n 6), ch (fq n 5), ch (fq n 4), ch (fq n 3), ch (fq n 2), ch (fq n 1), ch (fq n 0)].toArray⟩) (ora := [(17, .bit true), (10, .bit true), (10, .bit true), (10, .bit true), (10, .bit true), (10, .bit true), (10, .bit true), (10, .bit true), (10, .bit true), (10, .bit true), (10, .bit true), (10, .bit true), (10, .bit true), (10, .bit true), (10, .bit true), (10, .bit true), (10, .bit true), (10, .bit true), (10, .bit false)]) (p := fun _ => [decide (fq n 1 > 0) = true, decide (fq n 2 > 0) = true, decide (fq n 3 > 0) = true, decide (fq n 4 > 0) = true, decide (fq n 5 > 0) = true, decide (fq n 6 > 0) = true, decide (fq n 7 > 0) = true, decide (fq n 8 > 0) = true, decide (fq n 9 > 0) = true, decide (fq n 10 > 0) = true, decide (fq n 11 > 0) = true, decide (fq n 12 > 0) = true, decide (fq n 13 > 0) = true, decide (fq n 14 > 0) = true, decide (fq n 15 > 0) = true, decide (fq n 16 > 0) = true, decide (fq n 17 > 0) = true, decide (fq n 18 > 0) = true, decide (fq n 19 > 0) = false]) (fun Fr => by kernel_rfl) (fun _ => all_cons (decide_eq_true h1) (all_cons (decide_eq_true h2) (all_cons (decide_eq_true h3) (all_cons (decide_eq_true h4) (all_cons (decide_eq_true h5) (all_cons (decide_eq_true h6) (all_cons (decide_eq_true h7) (all_cons (decide_eq_true h8) (all_cons (decide_eq_true h9) (all_cons (decide_eq_true h10) (all_cons (decide_eq_true h11) (all_cons (decide_eq_true h12) (all_cons (decide_eq_true h13) (all_cons (decide_eq_true h14) (all_cons (decide_eq_true h15) (all_cons (decide_eq_true h16) (all_cons (decide_eq_true h17) (all_cons (decide_eq_true h18) (all_cons (decide_eq_false h19) (all_nil)))))))))))))))))))) rfl
                                      case pos =>
                                        by_cases h20 : fq n 20 > 0
                                        case neg =>
                                          have e : dl n = [ch (fq n 19), ch (fq n 18), ch (fq n 17), ch (fq n 16), ch (fq n 15), ch (fq n 14), ch (fq n 13), ch (fq n 12), ch (fq n 11), ch (fq n 10), ch (fq n 9), ch (fq n 8), ch (fq n 7), ch (fq n 6), ch (fq n 5), ch (fq n 4), ch (fq n 3), ch (fq n 2), ch (fq n 1), ch (fq n 0)] := by
                                            unfold dl
                                            rw [dlq, if_pos h1]
                                            rw [dlq, if_pos h2]
                                            rw [dlq, if_pos h3]
                                            rw [dlq, if_pos h4]
                                            rw [dlq, if_pos h5]
                                            rw [dlq, if_pos h6]
                                            rw [dlq, if_pos h7]
                                            rw [dlq, if_pos h8]
                                            rw [dlq, if_pos h9]
                                            rw [dlq, if_pos h10]
                                            rw [dlq, if_pos h11]
                                            rw [dlq, if_pos h12]
                                            rw [dlq, if_pos h13]
                                            rw [dlq, if_pos h14]
                                            rw [dlq, if_pos h15]
                                            rw [dlq, if_pos h16]
                                            rw [dlq, if_pos h17]
                                            rw [dlq, if_pos h18]
                                            rw [dlq, if_pos h19]
                                            rw [dlq]
                                          rw [e]
                                          exact out (v := .string ⟨[ch (fq n 19), ch (fq n 18), ch (fq n 17), ch (fq n 16), ch (fq n 15), ch (fq n 14), ch (fq n 13), ch (fq n 12), ch (fq n 11), ch (fq n 10), ch (fq n 9), ch (fq n 8), ch (fq n 7), ch (fq n 6), ch (fq n 5), ch (fq n 4), ch (fq n 3), ch (fq n 2), ch (fq n 1), ch (fq n 0)].toArray⟩) (ora := [(17, .bit true), (10, .bit true), (10, .bit true), (10, .bit true), (10, .bit true), (10, .bit true), (10, .bit true), (10, .bit true), (10, .bit true), (10, .bit true), (10, .bit true), (10, .bit true), (10, .bit true), (10, .bit true), (10, .bit true), (10, .bit true), (10, .bit true), (10, .bit true), (10, .bit true), (10, .bit false)]) (p := fun _ => [decide (fq n 1 > 0) = true, decide (fq n 2 > 0) = true, decide (fq n 3 > 0) = true, decide (fq n 4 > 0) = true, decide (fq n 5 > 0) = true, decide (fq n 6 > 0) = true, decide (fq n 7 > 0) = true, decide (fq n 8 > 0) = true, decide (fq n 9 > 0) = true, decide (fq n 10 > 0) = true, decide (fq n 11 > 0) = true, decide (fq n 12 > 0) = true, decide (fq n 13 > 0) = true, decide (fq n 14 > 0) = true, decide (fq n 15 > 0) = true, decide (fq n 16 > 0) = true, decide (fq n 17 > 0) = true, decide (fq n 18 > 0) = true, decide (fq n 19 > 0) = true, decide (fq n 20 > 0) = false]) (fun Fr => by kernel_rfl) (fun _ => all_cons (decide_eq_true h1) (all_cons (decide_eq_true h2) (all_cons (decide_eq_true h3) (all_cons (decide_eq_true h4) (all_cons (decide_eq_true h5) (all_cons (decide_eq_true h6) (all_cons (decide_eq_true h7) (all_cons (decide_eq_true h8) (all_cons (decide_eq_true h9) (all_cons (decide_eq_true h10) (all_cons (decide_eq_true h11) (all_cons (decide_eq_true h12) (all_cons (decide_eq_true h13) (all_cons (decide_eq_true h14) (all_cons (decide_eq_true h15) (all_cons (decide_eq_true h16) (all_cons (decide_eq_true h17) (all_cons (decide_eq_true h18) (all_cons (decide_eq_true h19) (all_cons (decide_eq_false h20) (all_nil))))))))))))))))))))) rfl
                                        case pos =>
                                          refine (fq_end n fun k hk => ?_).elim
                                          match k, hk with
                                          | 0, _ => exact h1
                                          | 1, _ => exact h2
                                          | 2, _ => exact h3
                                          | 3, _ => exact h4
                                          | 4, _ => exact h5
                                          | 5, _ => exact h6
                                          | 6, _ => exact h7
                                          | 7, _ => exact h8
                                          | 8, _ => exact h9
                                          | 9, _ => exact h10
                                          | 10, _ => exact h11
                                          | 11, _ => exact h12
                                          | 12, _ => exact h13
                                          | 13, _ => exact h14
                                          | 14, _ => exact h15
                                          | 15, _ => exact h16
                                          | 16, _ => exact h17
                                          | 17, _ => exact h18
                                          | 18, _ => exact h19
                                          | 19, _ => exact h20
                                          | k + 20, hk => omega
end Go.Proofs.YtakfoidmabendaaDoor.Pay
