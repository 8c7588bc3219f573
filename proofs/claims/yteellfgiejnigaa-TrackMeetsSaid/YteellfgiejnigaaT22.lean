/- The law of TrackMeets, joined out of its cases. -/
import Derived.Test.YteellfgiejnigaaT21
namespace Go.Proofs.Yteellfgiejnigaa
open Go.ChangeShapes Go.WideShapes Go.ChangeAt Go.RowKit
set_option linter.unusedVariables false

theorem meets_law_w (B T prev at' : Nat) (v1 v2 : Value) (es ss : List Ent) (w : World) (S1 S2 : Foot) (h1 : EsR w S1 v1 es) (h2 : EsR w S2 v2 ss) (k1 : ∀ e ∈ es, e.2.length ≤ 140737488351232) (k2 : ∀ e ∈ ss, e.2.length ≤ 140737488351232)
    (hT : T < 2 ^ 64) (hat : at' < 2 ^ 64) :
    Calls Try.prog 5 #[.int .u64 (B : Int), .int .u64 (T : Int), v1, v2, .int .u64 (prev : Int), .int .u64 (at' : Int)] w fun r w' => r = .returned (.bool true) ∧ Below w.heap.size w w' := by
  by_cases hl1 : 30 < es.length
  · exact meets_many1_w B T prev at' v1 v2 es ss w S1 S2 h1 h2 hl1
  have hl1 : es.length ≤ 30 := by omega
  by_cases hl2 : 30 < ss.length
  · exact meets_many2_w B T prev at' v1 v2 es ss w S1 S2 h1 h2 hl1 hl2
  have hl2 : ss.length ≤ 30 := by omega
  cases ht : tameR [es, ss] with
  | false => exact meets_wild_w B T prev at' v1 v2 es ss w S1 S2 h1 h2 hl1 hl2 k1 k2 ht
  | true =>
    by_cases hb : 9223372036854775808 < B
    · exact meets_high1_w B T prev at' v1 v2 es ss w S1 S2 h1 h2 hl1 hl2 k1 k2 ht hb
    have hb : B ≤ 9223372036854775808 := by omega
    by_cases hp : 9223372036854775808 < prev
    · exact meets_high2_w B T prev at' v1 v2 es ss w S1 S2 h1 h2 hl1 hl2 k1 k2 ht hb hp
    have hp : prev ≤ 9223372036854775808 := by omega
    rcases hm : meetR B T es prev at' ss with ⟨keep, add, e⟩
    by_cases he : e = 0
    · subst he
      have law := meet_law (B := B) (T := T) (es := es) (prev := prev) (term := at') (ss := ss) hb hp hl2
      rw [hm] at law
      exact meets_ok_w B T prev at' keep v1 v2 es ss w S1 S2 h1 h2 hl1 hl2 k1 k2 ht hb hp hT hat add hm (law rfl)
    · have law := meet_err (B := B) (T := T) (es := es) (prev := prev) (term := at') (ss := ss)
      rw [hm] at law
      obtain ⟨q, hk, ha⟩ := law he
      dsimp only at q hk ha
      subst hk ha
      rcases q with rfl | rfl
      · exact meets_old_w B T prev at' v1 v2 es ss w S1 S2 h1 h2 hl1 hl2 k1 k2 ht hb hp hT hat hm
      · exact meets_gap_w B T prev at' v1 v2 es ss w S1 S2 h1 h2 hl1 hl2 k1 k2 ht hb hp hT hat hm
end Go.Proofs.Yteellfgiejnigaa
