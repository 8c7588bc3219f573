/- Walks of placed, and of the function that it makes. -/
import Derived.Test.YteellfgiejnigaaT5
namespace Go.Proofs.Yteellfgiejnigaa
open Go.ChangeShapes Go.WideShapes Go.ChangeAt Go.RowKit
set_option linter.unusedVariables false
attribute [local go_sem] Oper.semAt_some

set_option maxRecDepth 100000 in
theorem placed_w (prev : Nat) (sv : Value) (hsv : sv.oneCell' = true) (w : World) :
    Calls Try.prog 77 #[.int .u64 (prev : Int), sv] w fun r w' => r = .returned (.func (.func 123) #[] #[.pointer (some ⟨w.heap.size + 1, 0, none⟩), .pointer (some ⟨w.heap.size, 0, none⟩)]) ∧
      w' = (w.alloc (.cells #[.int .u64 (prev : Int)] 22)).alloc (.cells #[sv] 28) := by
  go_enter Try.func77, Try.ntmps77
  go_wp2
  go_ret
  exact ⟨rfl, rfl⟩

/-- The two blocks that the iterator reads. -/
def PlAt (w : World) (Bp Bl prev : Nat) (sv : Value) : Prop := w.heap[Bp]? = some (.cells #[.int .u64 (prev : Int)] 22) ∧ w.heap[Bl]? = some (.cells #[sv] 28)
theorem PlAt.put {w : World} {Bp Bl prev : Nat} {sv : Value} (h : PlAt w Bp Bl prev sv) (hne : Bp ≠ Bl) (m : Nat) : PlAt (w.setCell ⟨Bp, 0, none⟩ (.int .u64 (m : Int))) Bp Bl m sv := by
  obtain ⟨h1, h2⟩ := h
  refine ⟨?_, by rw [Below.heap_setCell _ _ _ _ (by simpa using Ne.symm hne)]; exact h2⟩
  simp only [World.setCell, Array.getElem?_modify, h1, if_true, Option.map_some]
  rfl
theorem PlAt.cp {w : World} {Bp Bl prev : Nat} {sv : Value} (h : PlAt w Bp Bl prev sv) : w.cell? ⟨Bp, 0, none⟩ = some (.int .u64 (prev : Int)) := by rw [cell_of_row _ _ _ _ _ _ h.1]; rfl
theorem PlAt.cl {w : World} {Bp Bl prev : Nat} {sv : Value} (h : PlAt w Bp Bl prev sv) : w.cell? ⟨Bl, 0, none⟩ = some sv := by rw [cell_of_row _ _ _ _ _ _ h.2]; rfl
theorem PlAt.fp {w : World} {Bp Bl prev : Nat} {sv : Value} (h : PlAt w Bp Bl prev sv) : w.frozen? ⟨Bp, 0, none⟩ = false := by
  have h := h.1
  simp [World.frozen?, h]
theorem PlAt.same {w w' : World} {Bp Bl prev : Nat} {sv : Value} (h : PlAt w Bp Bl prev sv) (hs : SameOn (fun b => b = Bp ∨ b = Bl) w w') : PlAt w' Bp Bl prev sv := ⟨(hs Bp (.inl rfl)).trans h.1, (hs Bl (.inr rfl)).trans h.2⟩

def placedN (prev n : Nat) : Nat := min n (18446744073709551615 - prev)
set_option maxRecDepth 100000 in
theorem placed_iter (w : World) (prev Bp Bl n c : Nat) (p : Option Addr) (hp : prev < 2 ^ 64) (hn : n ≤ 1000000) (hne : Bp ≠ Bl) (hat : PlAt w Bp Bl prev (.slice p n c)) :
    Iter Try.prog 123 #[.pointer (some ⟨Bl, 0, none⟩), .pointer (some ⟨Bp, 0, none⟩)] (fun k => #[.int .u64 ((prev + k + 1 : Nat) : Int), .int .i64 (k : Int)]) (placedN prev n) (SameOn (fun b => b = Bp ∨ b = Bl)) Bp w := by
  intro l J Jx W hW hJ hY h0
  have hlp : Bp < w.heap.size := (Array.getElem?_eq_some_iff.1 hat.1).1
  have hll : Bl < w.heap.size := (Array.getElem?_eq_some_iff.1 hat.2).1
  have hatW : PlAt W Bp Bl prev (.slice p n c) := hat.same fun b hb => hW.block b (by rcases hb with rfl | rfl <;> assumption)
  have cl0 := hatW.cl
  have HJ := Lib.hid hJ
  have HY := Lib.hid hY
  have H0 := Lib.hid h0
  have HA := Lib.hid hatW
  have HN := Lib.hid (show placedN prev n = min n (18446744073709551615 - prev) from rfl)
  clear hJ hY h0 hatW hat hW hlp hll
  generalize placedN prev n = N at *
  refine callsIn_of_wp Try.func123 rfl trivial ?_ rfl
  simp only [Try.ntmps123, List.size_toArray, List.length_cons, List.length_nil, Nat.reduceAdd, Nat.reduceSub, Array.replicate_succ, Array.replicate_zero, List.push_toArray, List.append_toArray, List.nil_append, List.cons_append]
  gi_wp2
  gi_loopw [7] (fun i wr => ∃ k : Nat, k ≤ n ∧ Hid (k ≤ N) ∧ i = .int .i64 (k : Int) ∧ Hid (J k wr) ∧ Hid (PlAt wr Bp Bl (prev + k) (.slice p n c))) (fun i _ => n - (intOf i).toNat)
  case atStart => exact ⟨0, Nat.zero_le _, Lib.hid (Nat.zero_le _), rfl, H0, HA⟩
  case round =>
    obtain ⟨k, hk, HK, rfl, HJk, HAk⟩ := hrel
    have fp := HAk.out.fp
    obtain ⟨m, hm⟩ : ∃ m, m = prev + k := ⟨_, rfl⟩
    have cp := HAk.out.cp
    rw [← hm] at cp
    have Hm := Lib.hid hm
    have hk6 : k ≤ 1000000 := by omega
    by_cases hlt : k < n
    · by_cases htop : m = 18446744073709551615
      · have Hk := Lib.hid (show k = N by have := HK.out; have := HN.out; omega)
        have e1 : (((m : Nat) : Int) == 18446744073709551615) = true := by simp; omega
        have e2 : decide (((m : Nat) : Int) = 18446744073709551615) = true := by simp; omega
        have e3 : (m == 18446744073709551615) = true := by simp; omega
        have e4 : decide (m = 18446744073709551615) = true := by simp; omega
        clear hm htop
        gi_wp2
        refine bodyPost_ret (results_none rfl _ _ _) rfl ?_
        refine ⟨⟨_, rfl⟩, .inl ?_⟩
        rw [← Hk.out]; exact HJk.out
      · obtain ⟨m1, hm1⟩ : ∃ m1, m1 = m + 1 := ⟨_, rfl⟩
        have hmb : m < 18446744073709551615 := by have := HK.out; have := HN.out; omega
        have e1 : (((m : Nat) : Int) == 18446744073709551615) = false := by simp; omega
        have e2 : decide (((m : Nat) : Int) = 18446744073709551615) = false := by simp; omega
        have e3 : (m == 18446744073709551615) = false := by simp; omega
        have e4 : decide (m = 18446744073709551615) = false := by simp; omega
        have e5 : IntKind.u64.wrap ((m : Int) + 1) = (m1 : Int) := by rw [IntWalk.u64_in _ (by omega)]; omega
        have e6 : IntKind.u64.wrap (m1 : Int) = (m1 : Int) := IntWalk.u64_in _ (by omega)
        have Hm1 := Lib.hid (show m1 = prev + k + 1 by omega)
        have hJ2 := HJ.out k wr (.int .u64 (m1 : Int)) HJk.out
        have hA2 := HAk.out.put hne m1
        have HkN := Lib.hid (show k < N by have := HN.out; omega)
        obtain ⟨fn, tmps, assign, body, hy, hR⟩ := HY.out k _ hJ2 HkN.out
        rw [← Hm1.out] at hy
        have cp2 := hA2.cp
        have HA2 := Lib.hid hA2
        clear hm hm1 htop hA2 hJ2 hmb
        gi_wp2
        refine ⟨rfl, hR.mono ?_⟩
        rintro e W3 (⟨rfl, hJ3, hk3⟩ | ⟨rfl, hJx⟩)
        · have HJ3 := Lib.hid hJ3
          have HA3 := Lib.hid (HA2.out.same hk3)
          clear hJ3 hk3 hR hy cp2
          gi_wp2
          go_roundw
          case rel => exact ⟨k + 1, by omega, Lib.hid (by have := HkN.out; omega), by go_num, HJ3, Lib.hid (by have h := HA3.out; rw [Hm1.out] at h; exact h)⟩
          case measure => simp [intOf]; omega
        · have HJx := Lib.hid hJx
          clear hJx hR hy cp2
          gi_wp2
          refine bodyPost_ret (results_none rfl _ _ _) rfl ?_
          exact ⟨⟨_, rfl⟩, .inr ⟨k, HkN.out, HJx.out⟩⟩
    · have Hk := Lib.hid (show k = N by have := HK.out; have := HN.out; omega)
      gi_wp2
      go_end0
      refine ⟨⟨_, rfl⟩, .inl ?_⟩
      rw [← Hk.out]; exact HJk.out
end Go.Proofs.Yteellfgiejnigaa
