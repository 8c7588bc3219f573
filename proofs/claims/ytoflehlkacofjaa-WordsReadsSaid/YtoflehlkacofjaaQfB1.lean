/- The document's fields of a kind, as letters. -/
import Derived.Test.YtoflehlkacofjaaQfA14
namespace Go.Proofs.Ytoflehlkacofjaa
open Go.ChangeShapes Go.WideShapes Go.ChangeAt Go.RowKit
set_option linter.unusedVariables false
set_option maxRecDepth 100000 in
set_option maxHeartbeats 3200000 in
theorem fields55_w (k : Nat) (w : World) : Calls Try.prog 55 #[.int .u8 (k : Int)] w fun e w' => e = .returned (.string ⟨(flds k).toArray⟩) ∧ w = w' := by
  have hk : k = 1 ∨ k = 2 ∨ k = 3 ∨ k = 4 ∨ k = 5 ∨ k = 6 ∨ k = 7 ∨ k = 8 ∨ k = 9 ∨ k = 10 ∨ k = 11 ∨ k = 13 ∨ k = 14 ∨ (k ≠ 1 ∧ k ≠ 2 ∧ k ≠ 3 ∧ k ≠ 4 ∧ k ≠ 5 ∧ k ≠ 6 ∧ k ≠ 7 ∧ k ≠ 8 ∧ k ≠ 9 ∧ k ≠ 10 ∧ k ≠ 11 ∧ k ≠ 13 ∧ k ≠ 14) := by omega
  rcases hk with rfl | rfl | rfl | rfl | rfl | rfl | rfl | rfl | rfl | rfl | rfl | rfl | rfl | ⟨h1, h2, h3, h4, h5, h6, h7, h8, h9, h10, h11, h13, h14⟩
  case inr.inr.inr.inr.inr.inr.inr.inr.inr.inr.inr.inr.inr =>
    have e1 : ((k : Int) == 1) = false := by simp; omega
    have e2 : ((k : Int) == 2) = false := by simp; omega
    have e3 : ((k : Int) == 3) = false := by simp; omega
    have e4 : ((k : Int) == 4) = false := by simp; omega
    have e5 : ((k : Int) == 5) = false := by simp; omega
    have e6 : ((k : Int) == 6) = false := by simp; omega
    have e7 : ((k : Int) == 7) = false := by simp; omega
    have e8 : ((k : Int) == 8) = false := by simp; omega
    have e9 : ((k : Int) == 9) = false := by simp; omega
    have e10 : ((k : Int) == 10) = false := by simp; omega
    have e11 : ((k : Int) == 11) = false := by simp; omega
    have e13 : ((k : Int) == 13) = false := by simp; omega
    have e14 : ((k : Int) == 14) = false := by simp; omega
    have hf : flds k = [] := by unfold flds; simp [h1, h2, h3, h4, h5, h6, h7, h8, h9, h10, h11, h13, h14]
    rw [hf]
    clear h1 h2 h3 h4 h5 h6 h7 h8 h9 h10 h11 h13 h14 hf
    go_enter Try.func55, Try.ntmps55
    go_wp2
    go_ret
    exact ⟨rfl, rfl⟩
  all_goals
    go_enter Try.func55, Try.ntmps55
    go_wp2
    go_ret
    exact ⟨rfl, rfl⟩
theorem has_next {f : List UInt8} {x : UInt8} {k : Nat} (hk : k < f.length) (h : (f.take k).contains x = false) (hx : f[k]'hk ≠ x) : (f.take (k + 1)).contains x = false := by
  rw [List.take_add_one]
  simp only [List.getElem?_eq_getElem hk, Option.toList_some, List.contains_append, h, Bool.false_or]
  simpa using fun e => hx e.symm
set_option maxRecDepth 100000 in
set_option maxHeartbeats 1600000 in
theorem has56_w (f : List UInt8) (x : UInt8) (w : World) (hl : f.length ≤ 1000) : Calls Try.prog 56 #[.string ⟨f.toArray⟩, .int .u8 (x.toNat : Int)] w fun e w' => e = .returned (.bool (f.contains x)) ∧ Below w.heap.size w w' := by
  have HB0 := Lib.hid (Below.refl w.heap.size w)
  obtain ⟨fs, hfs⟩ : ∃ fs : ByteArray, (⟨f.toArray⟩ : ByteArray) = fs := ⟨_, rfl⟩
  have hsz : fs.size = f.length := by rw [← hfs]; simp [ByteArray.size]
  have Hget := Lib.hid (show ∀ (k : Nat) (h : k < fs.size) (h2 : k < f.length), fs[k]'h = f[k]'h2 from fun k h h2 => by subst hfs; rfl)
  rw [hfs]
  clear hfs
  go_enter Try.func56, Try.ntmps56
  go_wp2
  go_loopw [5] (fun i wr => ∃ k : Nat, k ≤ f.length ∧ i = .int .i64 (k : Int) ∧ (f.take k).contains x = false ∧ Below w.heap.size w wr) (fun i _ => f.length - (intOf i).toNat)
  case atStart => exact ⟨0, Nat.zero_le _, rfl, by simp, HB0.out⟩
  case round =>
    obtain ⟨k, hk, rfl, hc, hB⟩ := hrel
    have HB := Lib.hid hB
    have HC := Lib.hid hc
    clear hB hc
    by_cases hlt : k < f.length
    · have hg := Hget.out k (by omega) hlt
      have Hn := Lib.hid (fun hx => has_next hlt HC.out hx)
      obtain ⟨y, hy⟩ : ∃ y, f[k]'hlt = y := ⟨_, rfl⟩
      rw [hy] at hg Hn
      by_cases hyx : y = x
      · have hc : f.contains x = true := by rw [← hyx, ← hy]; simp
        have hT := Lib.hid hc
        subst hyx
        clear hc hy Hn
        go_wp2
        go_ret
        exact ⟨by rw [hT.out]; rfl, HB.out⟩
      · have hb : ((y.toNat : Int) == (x.toNat : Int)) = false := by
          simp only [beq_eq_false_iff_ne, ne_eq]
          exact fun e => hyx (UInt8.toNat_inj.1 (by omega))
        have hN := Lib.hid (Hn.out hyx)
        clear hyx hy Hn
        go_wp2
        go_roundw
        case rel => exact ⟨k + 1, hlt, by go_num, hN.out, HB.out⟩
        case measure => simp [intOf]; omega
    · have hk' : k = f.length := by omega
      subst hk'
      have hc := HC.out
      rw [List.take_length] at hc
      have hT := Lib.hid hc
      clear hc
      go_wp2
      go_ret
      exact ⟨by rw [hT.out]; rfl, HB.out⟩
end Go.Proofs.Ytoflehlkacofjaa
