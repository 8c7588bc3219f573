/- Walk of the law's 'all'. -/
import Derived.Test.YtjkldodlnpkdaaaW6
import Derived.Test.YtjkldodlnpkdaaaRows2
namespace Go.Proofs.Ytjkldodlnpkdaaa
open Go.ChangeShapes Go.WideShapes Go.ChangeAt Go.RowKit
set_option linter.unusedVariables false

theorem flat_succ (ls : List (List UInt8)) (k : Nat) (h : k < ls.length) : (ls.take (k + 1)).flatten = (ls.take k).flatten ++ ls.getD k [] := by
  rw [List.take_succ_eq_append_getElem h, List.flatten_append, getD_of_lt _ _ _ h]; simp

/-- What 'all' hands back. -/
def AllPost (w : World) (ls : List (List UInt8)) (e : Ending) (w' : World) : Prop :=
  ∃ p n c ok, e = .returned (.tuple #[.slice p n c, .bool ok]) ∧ Below w.heap.size w w' ∧
    (ok = true → OB w' w.heap.size 5 (.slice p n c) ls.flatten ∧ ls.length ≤ 1000 ∧ ls.flatten.length ≤ 20000)

set_option maxHeartbeats 800000 in
theorem all_w (v : Value) (ls : List (List UInt8)) (w : World) (hr : RdBs w v ls) (hl : ∀ i, i < ls.length → (ls.getD i []).length ≤ 140737488351232) :
    Calls Try.prog 9 #[v] w (AllPost w ls) := by
  obtain ⟨q, cap, vs, rfl, hq, hqn, hqr⟩ := hr
  have hvn : vs.length ≤ 9223372036854775807 := by have h1 := hq.2.1; have h2 := hq.2.2.1; unfold maxLen at h2; omega
  have Hq := Lib.hid hq
  have Hqr := Lib.hid hqr
  have Hqn := Lib.hid hqn
  have Hl := Lib.hid hl
  clear hq hqr hqn hl
  go_enter Try.func9, Try.ntmps9
  go_wp2
  go_loopw [4, 5, 8] (fun b _ i wr => ∃ (k : Nat) (p : Option Addr) (n c : Nat), k ≤ vs.length ∧ i = .int .i64 k ∧ b = .slice p n c ∧ n = (ls.take k).flatten.length ∧ n ≤ 20000 ∧ OB wr w.heap.size 5 (.slice p n c) (ls.take k).flatten ∧ Below w.heap.size w wr) (fun _ _ i _ => vs.length - (intOf i).toNat)
  case atStart => exact ⟨0, none, 0, 0, by omega, rfl, rfl, rfl, by omega, OB.nil _ _ _, Below.refl _ _⟩
  case round =>
    obtain ⟨k, p, n, c, hk, rfl, rfl, hn, hn2, ho, hB⟩ := hrel
    have Hn := Lib.hid hn
    have Ho := Lib.hid ho
    have HB := Lib.hid hB
    clear hn ho hB
    by_cases hlt : k < vs.length
    · have hkl : k < ls.length := by have := Hqn.out; omega
      obtain ⟨bq, oq, rfl, hbq, hcq0⟩ := Hq.out.at hlt
      have hcq := (HB.out.cell (p := ⟨bq, oq + k, none⟩) hbq).trans hcq0
      have hrk := (Hqr.out k hlt).below HB.out
      have hfs := flat_succ ls k hkl
      have hlk := Hl.out k hkl
      generalize ls.getD k [] = l at *
      obtain ⟨pk, ck, hvk, hpk⟩ := hrk
      have Hrk : Hid (RdB wr (.slice pk l.length ck) l) := Lib.hid ⟨pk, ck, rfl, hpk⟩
      rw [hvk] at hcq
      have Hfs := Lib.hid hfs
      clear hcq0 hbq hfs hvk hpk
      by_cases hbig : n + l.length ≤ 20000
      · go_wp2_with (refine wpList_append_bytes rfl (.tmp 20) (.tmp 24) 23 rfl hel rfl Ho.out rfl Hrk.out (by have := Hn.out; omega) HB.out.size ?_; intro p1 n1 c1 w1 hn1 ho1 hg1; have Hn1 := Lib.hid hn1; have Ho1 := Lib.hid ho1; have Hg1 := Lib.hid (HB.out.trans (below_own Ho.out hg1 HB.out.size)); clear hn1 ho1 hg1)
        go_roundw
        case rel =>
          refine ⟨k + 1, p1, n1, c1, by omega, by go_num, rfl, ?_, ?_, ?_, Hg1.out⟩
          · rw [Hfs.out]; exact Hn1.out
          · have h1 := Hn1.out; have h2 := Hn.out; rw [List.length_append] at h1; omega
          · rw [Hfs.out]; exact Ho1.out
        case measure => simp [intOf]; omega
      · go_wp2
        go_ret2
        exact ⟨_, _, _, false, rfl, HB.out, fun h => by cases h⟩
    · have hkv : k = ls.length := by have := Hqn.out; omega
      have hqn := Hqn.out
      have hn := Hn.out
      have ho := Ho.out
      rw [hkv, List.take_length] at hn ho
      have Hn' := Lib.hid hn
      have Ho' := Lib.hid ho
      clear hn ho hqn hkv
      by_cases h1000 : vs.length ≤ 1000
      · go_wp2
        go_ret2
        refine ⟨_, _, _, _, rfl, HB.out, fun _ => ⟨Ho'.out, ?_, ?_⟩⟩
        · have := Hqn.out; omega
        · have := Hn'.out; omega
      · have hdec : decide ((vs.length : Int) ≤ 1000) = false := by simp; omega
        go_wp2
        go_ret2
        refine ⟨_, _, _, _, rfl, HB.out, fun h => ?_⟩
        simp at h
end Go.Proofs.Ytjkldodlnpkdaaa
