/- wharflaw03.JidParts: joined. -/
import Derived.Test.YthifpbaebbodoaaDoorJidO
set_option linter.unusedVariables false
set_option linter.unusedSimpArgs false
namespace Go.Proofs.YthifpbaebbodoaaDoor.Jid
open Go.RowKit GlyP Gly Strs JidP

theorem toList_inj {s t : ByteArray} (h : s.toList = t.toList) : s = t := by
  rw [Lib.toList_data, Lib.toList_data] at h
  rw [U.mk_data s _ h, of_data]
theorem JidParts_walk (a b c x y z : ByteArray) (ha : Low a) (hb : Low b) (hc : Low c) (hx : Low x) (hy : Low y) (hz : Low z) (w : World) :
    Calls Tryd.prog 7 #[.agg #[.string a, .string b, .string c], .agg #[.string x, .string y, .string z]] w fun e w' => e = .returned (.bool true) ∧ Below w.heap.size w w' := by
  by_cases h1 : a.size + b.size + c.size ≤ 4000
  · have HS := smallSays a b c ha hb hc true (decide_eq_true h1)
    by_cases h2 : x.size + y.size + z.size ≤ 4000
    · have HT := smallSays x y z hx hy hz true (decide_eq_true h2)
      cases hj : ok (jOf a b c) with
      | false => exact JidParts_3 a b c x y z HS HT (checkSays a b c (by omega) (by omega) (by omega) 30 (by rw [hj]; rfl)) w
      | true =>
        obtain ⟨HC, HP, _, _⟩ := good a b c (by omega) (by omega) (by omega) (by omega) hj
        cases hk : ok (jOf x y z) with
        | false => exact JidParts_4 a b c x y z HS HT HC (checkSays x y z (by omega) (by omega) (by omega) 30 (by rw [hk]; rfl)) w
        | true =>
          obtain ⟨HD, HQ, _, _⟩ := good x y z (by omega) (by omega) (by omega) (by omega) hk
          have HB : CheckSays a b ⟨#[]⟩ 0 := checkSays a b ⟨#[]⟩ (by omega) (by omega) (by decide) 0 (by
            rw [show ok (jOf a b ⟨#[]⟩) = true from ok_bare hj]; rfl)
          have hne : ¬ (a.toList = x.toList ∧ b.toList = y.toList ∧ c.toList = z.toList) → ((putB a b c).toList == (putB x y z).toList) = false := by
            intro hn
            rw [beq_eq_false_iff_ne]
            intro he
            rw [Lib.toList_data, Lib.toList_data, putB_data, putB_data] at he
            have e := put_inj hj hk he
            refine hn ⟨?_, ?_, ?_⟩
            · rw [Lib.toList_data, Lib.toList_data]; exact congrArg J.n e
            · rw [Lib.toList_data, Lib.toList_data]; exact congrArg J.d e
            · rw [Lib.toList_data, Lib.toList_data]; exact congrArg J.r e
          by_cases e1 : a.toList = x.toList
          · by_cases e2 : b.toList = y.toList
            · by_cases e3 : c.toList = z.toList
              · obtain rfl := toList_inj e1
                obtain rfl := toList_inj e2
                obtain rfl := toList_inj e3
                exact JidParts_same a b c _ HS HC HB HP w
              · exact JidParts_res a b c x y z _ _ HS HT HC HD HB HP HQ (hne fun h => e3 h.2.2) e1 e2 e3 w
            · exact JidParts_dom a b c x y z _ _ HS HT HC HD HB HP HQ (hne fun h => e2 h.2.1) e1 e2 w
          · exact JidParts_node a b c x y z _ _ HS HT HC HD HB HP HQ (hne fun h => e1 h.1) e1 w
    · exact JidParts_2 a b c x y z HS (smallSays x y z hx hy hz false (decide_eq_false h2)) w
  · exact JidParts_1 a b c x y z (smallSays a b c ha hb hc false (decide_eq_false h1)) w
end Go.Proofs.YthifpbaebbodoaaDoor.Jid
