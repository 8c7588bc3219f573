/- Walk of the law on parts. -/
import Derived.Test.YtjkldodlnpkdaaaW8
namespace Go.Proofs.Ytjkldodlnpkdaaa
open Go.ChangeShapes Go.WideShapes Go.ChangeAt Go.RowKit
set_option linter.unusedVariables false

set_option maxHeartbeats 800000 in
theorem parts_w (p q : Option Addr) (cp cq : Nat) (a b : List UInt8) (w : World) (hp : PtB w p cp a) (hq : PtB w q cq b) (ha : a.length ≤ 9223372036854775807) (hb : b.length ≤ 9223372036854775807) :
    Calls Try.prog 8 #[.slice p a.length cp, .slice q b.length cq] w fun e w' => e = .returned (.bool true) ∧ Below w.heap.size w w' := by
  have HA : Hid (RdB w (.slice p a.length cp) a) := Lib.hid ⟨p, cp, rfl, hp⟩
  have HQ : Hid (RdB w (.slice q b.length cq) b) := Lib.hid ⟨q, cq, rfl, hq⟩
  clear hp hq
  by_cases hbig : a.length ≤ 20000
  · by_cases hbig2 : b.length ≤ 20000
    · have HS := Lib.hid (And.intro (Crc.join_sum a b) (Crc.more_sum a b))
      obtain ⟨s, hs⟩ : ∃ s, Crc.sum (a ++ b) = s := ⟨_, rfl⟩
      obtain ⟨x, hx⟩ : ∃ x, Crc.sum a = x := ⟨_, rfl⟩
      obtain ⟨y, hy⟩ : ∃ y, Crc.sum b = y := ⟨_, rfl⟩
      have hxl : x < 2 ^ 32 := hx ▸ Crc.sum_lt _
      have hyl : y < 2 ^ 32 := hy ▸ Crc.sum_lt _
      have Hs := Lib.hid hs
      have Hx := Lib.hid hx
      have Hy := Lib.hid hy
      clear hs hx hy
      go_enter Try.func8, Try.ntmps8
      go_wp2_with (first
        | (refine wpList_append_bytes rfl (.tmp 17) (.tmp 18) 23 rfl hel rfl (OB.new w 5) rfl (HA.out.keeps (.alloc (.refl _) _)) (by simp; omega) (by simp) ?_; intro p1 n1 c1 w1 hn1 ho1 hg1; simp only [List.nil_append] at ho1 hn1; have Hn1 := Lib.hid hn1; clear hn1; have Ho1 := Lib.hid ho1; have Hg1 := Lib.hid ((Below.refl w.heap.size w).alloc (Nat.le_refl _) (.cells #[] 5) |>.trans (below_own (OB.new w 5) hg1 (by simp))); clear ho1 hg1)
        | (refine wpList_append_bytes rfl (.tmp 19) (.tmp 20) 23 rfl hel rfl Ho1.out rfl (HQ.out.below Hg1.out) (by omega) Hg1.out.size ?_; intro p2 n2 c2 w2 hn2 ho2 hg2; have Hn2 := Lib.hid hn2; clear hn2; have Ho2 := Lib.hid ho2; have Hg2 := Lib.hid (Hg1.out.trans (below_own Ho1.out hg2 Hg1.out.size)); clear ho2 hg2)
        | (go_at_call 11; (with_reducible refine (sum_one (.slice p2 n2 c2) (a ++ b) w2 _ ?_ ?_ ?_ _ ?_ s ?_).mono ?_); (focus exact Ho2.out.rd); (focus rfl); (focus (simp; omega)); (focus rfl); (focus exact Hs.out); rintro e w3 ⟨rfl, hb3, -⟩; have Hg3 := Lib.hid (next_call Hg2.out _ hb3); clear hb3)
        | (go_at_call 11; (with_reducible refine (sum_one (.slice p a.length cp) a w3 _ ?_ ?_ ?_ _ ?_ x ?_).mono ?_); (focus exact HA.out.below Hg3.out); (focus rfl); (focus omega); (focus rfl); (focus exact Hx.out); rintro e w4 ⟨rfl, hb4, -⟩; have Hg4 := Lib.hid (next_call Hg3.out _ hb4); clear hb4)
        | (go_at_call 11; (with_reducible refine (sum_one (.slice q b.length cq) b w4 _ ?_ ?_ ?_ _ ?_ y ?_).mono ?_); (focus exact HQ.out.below Hg4.out); (focus rfl); (focus omega); (focus rfl); (focus exact Hy.out); rintro e w5 ⟨rfl, hb5, -⟩; have Hg5 := Lib.hid (next_call Hg4.out _ hb5); clear hb5)
        | (go_at_call 13; (with_reducible refine (join_w x y b.length hxl hyl (by omega) _).mono ?_); rintro e w6 ⟨rfl, hb6⟩; rw [show Crc.join x y b.length = s from by rw [← Hx.out, ← Hy.out, ← Hs.out]; exact HS.out.1]; have Hg6 := Lib.hid (Hg5.out.trans (hb6.mono Hg5.out.size)); clear hb6)
        | (go_at_call 11; (with_reducible refine (sum_two (.slice p a.length cp) (.slice q b.length cq) a b w6 _ ?_ ?_ ?_ ?_ ?_ s ?_).mono ?_); (focus exact HA.out.below Hg6.out); (focus exact HQ.out.below Hg6.out); (focus rfl); (focus omega); (focus omega); (focus exact Hs.out); rintro e w7 ⟨rfl, hb7⟩; have Hg7 := Lib.hid (next_call Hg6.out _ hb7); clear hb7)
        | (go_at_call 11; (with_reducible refine (sum_one (.slice p a.length cp) a w7 _ ?_ ?_ ?_ _ ?_ x ?_).mono ?_); (focus exact HA.out.below Hg7.out); (focus rfl); (focus omega); (focus rfl); (focus exact Hx.out); rintro e w8 ⟨rfl, hb8, -⟩; have Hg8 := Lib.hid (next_call Hg7.out _ hb8); clear hb8)
        | (go_at_call 15; (with_reducible refine (more_w x hxl (.slice q b.length cq) b w8 ?_ ?_).mono ?_); (focus exact HQ.out.below Hg8.out); (focus omega); rintro e w9 ⟨rfl, hb9⟩; rw [show Crc.more x b = s from by rw [← Hx.out, ← Hs.out]; exact HS.out.2]; have Hg9 := Lib.hid (Hg8.out.trans (hb9.mono Hg8.out.size)); clear hb9)
        | (go_at_call 10; (with_reducible refine (known_w w9).mono ?_); rintro e w10 ⟨rfl, hb10⟩; have Hg10 := Lib.hid (Hg9.out.trans (hb10.mono Hg9.out.size)); clear hb10))
      go_ret
      exact ⟨rfl, Hg10.out⟩
    · go_enter Try.func8, Try.ntmps8
      go_wp2_with (go_at_call 10; refine (known_w _).mono ?_; rintro e w1 ⟨rfl, hb1⟩)
      go_ret
      exact ⟨rfl, hb1⟩
  · go_enter Try.func8, Try.ntmps8
    go_wp2_with (go_at_call 10; refine (known_w _).mono ?_; rintro e w1 ⟨rfl, hb1⟩)
    go_ret
    exact ⟨rfl, hb1⟩
end Go.Proofs.Ytjkldodlnpkdaaa
