/- The walk of tame: how many entries, and how many bytes, calls hold. -/
import Derived.Test.YteellfgiejnigaaT15
namespace Go.Proofs.Yteellfgiejnigaa
open Go.ChangeShapes Go.WideShapes Go.ChangeAt Go.RowKit
set_option linter.unusedVariables false

def dsum : List Ent → Nat
  | [] => 0
  | e :: l => e.2.length + dsum l
def osum : List (List Ent) → Nat
  | [] => 0
  | e :: l => dsum e + osum l
theorem dsum_append : ∀ a b : List Ent, dsum (a ++ b) = dsum a + dsum b
  | [], b => by simp [dsum]
  | e :: l, b => by simp only [List.cons_append, dsum, dsum_append l b]; omega
theorem osum_append : ∀ a b : List (List Ent), osum (a ++ b) = osum a + osum b
  | [], b => by simp [osum]
  | e :: l, b => by simp only [List.cons_append, osum, osum_append l b]; omega
theorem dsum_le {M : Nat} : ∀ l : List Ent, (∀ e ∈ l, e.2.length ≤ M) → dsum l ≤ l.length * M
  | [], _ => Nat.zero_le _
  | e :: l, h => by
    have h1 := h e (List.mem_cons_self ..)
    have h2 := dsum_le l fun x hx => h x (List.mem_cons_of_mem _ hx)
    rw [dsum, List.length_cons, Nat.add_mul]; omega
theorem osum_le {M : Nat} : ∀ l : List (List Ent), (∀ x ∈ l, dsum x ≤ M) → osum l ≤ l.length * M
  | [], _ => Nat.zero_le _
  | e :: l, h => by
    have h1 := h e (List.mem_cons_self ..)
    have h2 := osum_le l fun x hx => h x (List.mem_cons_of_mem _ hx)
    rw [osum, List.length_cons, Nat.add_mul]; omega
theorem le_dsum : ∀ (l : List Ent) (e : Ent), e ∈ l → e.2.length ≤ dsum l
  | x :: l, e, h => by
    rcases List.mem_cons.1 h with rfl | h
    · rw [dsum]; omega
    · have := le_dsum l e h; rw [dsum]; omega
theorem le_osum : ∀ (l : List (List Ent)) (x : List Ent), x ∈ l → dsum x ≤ osum l
  | y :: l, x, h => by
    rcases List.mem_cons.1 h with rfl | h
    · rw [osum]; omega
    · have := le_osum l x h; rw [osum]; omega
/-- Calls that are looked at. -/
def tameR (ls : List (List Ent)) : Bool := decide (ls.length ≤ 100 ∧ (∀ x ∈ ls, x.length ≤ 30) ∧ osum ls < 50000)
/-- The value is a row of calls with these entries. -/
def OpsL (w : World) (v : Value) (ls : List (List Ent)) : Prop := ∃ p c, v = .slice p ls.length c ∧
  (ls ≠ [] → ∃ b off, p = some ⟨b, off, none⟩ ∧ ∀ i (hi : i < ls.length), ∃ u S, w.cell? ⟨b, off + i * 5 + 4, none⟩ = some u ∧ EsR w S u ls[i])
theorem tame_no {ls : List (List Ent)} {k : Nat} (hk : k < ls.length) (h : 30 < ls[k].length) : tameR ls = false := by
  unfold tameR
  simp only [decide_eq_false_iff_not]
  intro e
  have := e.2.1 ls[k] (List.getElem_mem _)
  omega

set_option maxRecDepth 100000 in
set_option maxHeartbeats 1600000 in
theorem tame_w (v : Value) (ls : List (List Ent)) (w : World) (h : OpsL w v ls) (hd : ∀ x ∈ ls, ∀ e ∈ x, e.2.length ≤ 140737488355328) :
    Calls Try.prog 21 #[v] w fun r w' => r = .returned (.bool (tameR ls)) ∧ Below w.heap.size w w' := by
  obtain ⟨p, c, rfl, h⟩ := h
  have Hat := Lib.hid h
  have Hd := Lib.hid hd
  clear h hd
  go_enter Try.func21, Try.ntmps21
  go_wp2
  go_loop [3, 4] (fun n i => ∃ k : Nat, k ≤ ls.length ∧ k ≤ 101 ∧ i = .int .i64 (k : Int) ∧ n = .int .i64 ((osum (ls.take k) : Nat) : Int) ∧ Hid (∀ x ∈ ls.take k, x.length ≤ 30)) (fun _ i => 101 - (intOf i).toNat)
  case atStart => exact ⟨0, Nat.zero_le _, by decide, rfl, by simp [osum], Lib.hid (by simp)⟩
  case round =>
    obtain ⟨k, hk, hk1, rfl, rfl, HS⟩ := hrel
    have hsb : osum (ls.take k) ≤ 101 * (30 * 140737488355328) := by
      refine Nat.le_trans (osum_le (M := 30 * 140737488355328) _ fun x hx => ?_) ?_
      · refine Nat.le_trans (dsum_le x fun e he => Hd.out x (List.mem_of_mem_take hx) e he) (Nat.mul_le_mul_right _ (HS.out x hx))
      · rw [List.length_take]; exact Nat.mul_le_mul_right _ (by omega)
    by_cases hlt : k < ls.length ∧ k < 101
    · obtain ⟨hlt, hlt1⟩ := hlt
      obtain ⟨b, off, rfl, hc⟩ := Hat.out (by intro e; subst e; simp at hlt)
      obtain ⟨u, S, hcell, hes⟩ := hc k hlt
      have Hdk := Lib.hid (Hd.out ls[k] (List.getElem_mem _))
      have Hno := Lib.hid (fun h => tame_no hlt h)
      have Htk := Lib.hid (show ls.take (k + 1) = ls.take k ++ [ls[k]] by rw [List.take_succ_eq_append_getElem hlt])
      generalize ls[k] = es at *
      obtain ⟨s0, hs0⟩ : ∃ s0, osum (ls.take k) = s0 := ⟨_, rfl⟩
      rw [hs0] at hsb ⊢
      have Hs0 := Lib.hid hs0
      clear hs0
      obtain ⟨p2, c2, rfl⟩ : ∃ p c, u = .slice p es.length c := by obtain ⟨p, c, xs, e, _⟩ := hes; exact ⟨p, c, e⟩
      have Hes := Lib.hid hes
      clear hc hes
      go_wp2
      go_loop [3, 5] (fun n j => ∃ m : Nat, m ≤ es.length ∧ m ≤ 31 ∧ j = .int .i64 (m : Int) ∧ n = .int .i64 ((s0 + dsum (es.take m) : Nat) : Int)) (fun _ i => 31 - (intOf i).toNat)
      case atStart => exact ⟨0, Nat.zero_le _, by decide, rfl, by simp [dsum]⟩
      case round =>
        obtain ⟨m, hm, hm1, rfl, rfl⟩ := hrel
        have hdb : dsum (es.take m) ≤ 31 * 140737488355328 := by
          refine Nat.le_trans (dsum_le (M := 140737488355328) _ fun e he => Hdk.out e (List.mem_of_mem_take he)) ?_
          rw [List.length_take]; exact Nat.mul_le_mul_right _ (by omega)
        by_cases hl2 : m < es.length
        · by_cases hl3 : m < 31
          · obtain ⟨b2, off2, c3, d, hv, hc0, hc1, hrd⟩ := Hes.out.both m hl2
            cases hv
            have hdl := Hdk.out es[m] (List.getElem_mem _)
            have Hsm := Lib.hid (show dsum (es.take (m + 1)) = dsum (es.take m) + es[m].2.length by rw [List.take_succ_eq_append_getElem hl2, dsum_append]; simp [dsum])
            obtain ⟨pd, cd, rfl⟩ : ∃ p c, d = .slice p es[m].2.length c := by obtain ⟨p, c, h1, _⟩ := hrd; exact ⟨p, c, h1⟩
            generalize es[m].2.length = q at *
            generalize dsum (es.take m) = s1 at *
            clear hrd hc0
            go_wp2
            go_round
            case rel => exact ⟨m + 1, by omega, by omega, by go_num, by rw [Hsm.out]; go_num⟩
            case measure => simp [intOf]; omega
          · have hm31 : m = 31 := by omega
            subst hm31
            have hno := Hno.out (by omega)
            generalize dsum (es.take 31) = s1 at *
            go_wp2
            go_ret
            exact ⟨rfl, Below.refl _ _⟩
        · have hml : m = es.length := by omega
          subst hml
          by_cases hov : 30 < es.length
          · have hno := Hno.out hov
            generalize dsum (es.take es.length) = s1 at *
            generalize es.length = q at *
            go_wp2
            go_ret
            exact ⟨rfl, Below.refl _ _⟩
          · have Hov := Lib.hid hov
            obtain ⟨s1, hs1⟩ : ∃ s1, dsum (es.take es.length) = s1 := ⟨_, rfl⟩
            rw [hs1] at hdb ⊢
            have Hta := Lib.hid (show s1 = dsum es by rw [← hs1, List.take_length])
            clear hs1
            go_wp2
            go_round
            case rel =>
              refine ⟨k + 1, by omega, by omega, by go_num, ?_, Lib.hid fun x hx => ?_⟩
              · rw [Htk.out, osum_append, osum, osum, Hs0.out, ← Hta.out]; go_num
              · rw [Htk.out] at hx
                rcases List.mem_append.1 hx with hx | hx
                · exact HS.out x hx
                · simp only [List.mem_singleton] at hx; subst hx; have := Hov.out; omega
            case measure => simp [intOf]; omega
    · have Hend := Lib.hid (show tameR ls = (decide (ls.length ≤ 100) && decide (osum (ls.take k) < 50000)) by
        by_cases h100 : ls.length ≤ 100
        · have hkl : k = ls.length := by omega
          have h1 := HS.out
          rw [hkl, List.take_length] at h1 ⊢
          unfold tameR
          have e2 : (∀ x ∈ ls, x.length ≤ 30) ↔ True := iff_true_intro h1
          simp only [e2, h100, true_and, decide_true, Bool.true_and]
        · unfold tameR
          simp [h100])
      generalize osum (ls.take k) = s0 at *
      by_cases h100 : ls.length ≤ 100
      · have e2 : decide (ls.length ≤ 100) = true := by simp; omega
        rw [e2, Bool.true_and] at Hend
        have hkl : k = ls.length := by omega
        subst hkl
        clear Hat Hd HS
        generalize ls.length = q at *
        by_cases h5 : s0 < 50000
        · have e3 : decide (s0 < 50000) = true := by simp; omega
          rw [e3] at Hend
          go_wp2
          go_ret
          refine ⟨?_, Below.refl _ _⟩
          rw [Hend.out]
          have e4 : ((s0 : Int) < 50000) = (s0 < 50000) := by apply propext; omega
          simp [h5, e4]
        · have e3 : decide (s0 < 50000) = false := by simp; omega
          rw [e3] at Hend
          go_wp2
          go_ret
          refine ⟨?_, Below.refl _ _⟩
          rw [Hend.out]
          have e4 : ((s0 : Int) < 50000) = (s0 < 50000) := by apply propext; omega
          simp [h5, e4]
      · have e2 : decide (ls.length ≤ 100) = false := by simp; omega
        rw [e2, Bool.false_and] at Hend
        have hk2 : k = 101 := by omega
        subst hk2
        have hq : ls.length = 101 ∨ 101 < ls.length := by omega
        clear Hat Hd HS
        generalize ls.length = q at *
        rcases hq with rfl | hq
        · go_wp2
          go_ret
          exact ⟨by rw [Hend.out]; rfl, Below.refl _ _⟩
        · go_wp2
          go_ret
          exact ⟨by rw [Hend.out]; rfl, Below.refl _ _⟩
end Go.Proofs.Yteellfgiejnigaa
