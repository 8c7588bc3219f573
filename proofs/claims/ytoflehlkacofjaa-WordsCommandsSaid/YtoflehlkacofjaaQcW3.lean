/- Walks of the reader. -/
import Derived.Test.YtoflehlkacofjaaQcL1
import Derived.Test.YtoflehlkacofjaaQcW2
import Derived.BigQuiet
import Derived.Deep.QuietTactic
namespace Go.Proofs.Ytoflehlkacofjaa
open Go.ChangeShapes Go.WideShapes Go.ChangeAt Go.RowKit
set_option linter.unusedVariables false
/-- A reader lies at block g. -/
def Rdr (w : World) (g : Nat) (v : Value) (at_ : Nat) (e : Int) : Prop := w.heap[g]? = some (.cells #[v, .int .i64 (at_ : Int), .int .i64 e] 98)

theorem new_w (p : Option Addr) (n c : Nat) (w : World) :
    Calls Try.prog 41 #[.slice p n c] w fun e w' => e = .returned (.pointer (some ⟨w.heap.size, 0, none⟩)) ∧ w' = w.alloc (.cells #[.slice p n c, .int .i64 0, .int .i64 0] 98) := by
  go_enter Try.func41, Try.ntmps41
  go_wp2
  go_ret
  exact ⟨rfl, rfl⟩

theorem off_w (g : Nat) (v : Value) (a : Nat) (e : Int) (w : World) (h : Rdr w g v a e) :
    Calls Try.prog 72 #[.pointer (some ⟨g, 0, none⟩)] w fun r w' => r = .returned (.bool (decide (e ≠ 0))) ∧ w' = w := by
  have h2 : w.cell? ⟨g, 2, none⟩ = some (.int .i64 e) := by rw [cell_of_row _ _ _ _ _ _ h]; rfl
  by_cases h0 : e = 0
  · subst h0
    go_enter Try.func72, Try.ntmps72
    go_wp2
    go_ret
    exact ⟨rfl, rfl⟩
  · have hd : decide (e = 0) = false := by simp [h0]
    have hb : (e != 0) = true := by simp [h0]
    go_enter Try.func72, Try.ntmps72
    go_wp2
    go_ret
    refine ⟨?_, rfl⟩
    simp [h0]

theorem and127_u8 (a : Nat) (ha : a < 2 ^ 8) : bits .and .u8 (a : Int) 127 = ((a % 128 : Nat) : Int) := by
  have e : bits .and .u8 (a : Int) 127 = IntKind.u8.wrap (((BitVec.ofInt 8 a &&& BitVec.ofInt 8 ((127 : Nat) : Int) : BitVec 8).toNat : Nat) : Int) := rfl
  rw [e, BitVec.toNat_and, BitVec.ofInt_natCast, BitVec.ofInt_natCast, BitVec.toNat_ofNat, BitVec.toNat_ofNat, Nat.mod_eq_of_lt ha, Nat.mod_eq_of_lt (by decide)]
  have h : ∀ m, m < 256 → (m &&& 127) = m % 128 := by decide +kernel
  rw [h _ (by omega), IntKind.wrap_u8]; omega
theorem or_u64 (a z k : Nat) (ha : a < 128 ^ k) (hz : z * 128 ^ k < 2 ^ 64) (hk : k ≤ 9) : bits .or .u64 (a : Int) ((z * 128 ^ k : Nat) : Int) = ((a + z * 128 ^ k : Nat) : Int) := by
  have e : ∀ b : Nat, bits .or .u64 (a : Int) (b : Int) = IntKind.u64.wrap (((BitVec.ofInt 64 a ||| BitVec.ofInt 64 b : BitVec 64).toNat : Nat) : Int) := fun _ => rfl
  have h7 : (128 : Nat) ^ k = 2 ^ (7 * k) := by rw [Nat.pow_mul]
  have ha64 : a < 2 ^ 64 := Nat.lt_of_lt_of_le ha (by rw [h7]; exact Nat.pow_le_pow_right (by decide) (by omega))
  rw [e, BitVec.toNat_or, BitVec.ofInt_natCast, BitVec.ofInt_natCast, BitVec.toNat_ofNat, BitVec.toNat_ofNat, Nat.mod_eq_of_lt ha64, Nat.mod_eq_of_lt hz]
  rw [h7] at hz ⊢
  have h2 := Nat.two_pow_add_eq_or_of_lt (i := 7 * k) (b := a) (by rwa [h7] at ha) z
  rw [Nat.or_comm, Nat.mul_comm z, ← h2]
  have h3 := Nat.or_lt_two_pow ha64 hz
  rw [Nat.or_comm, Nat.mul_comm z, ← h2] at h3
  rw [IntKind.wrap_u64]; omega

theorem PtB.drop {w : World} {p : Option Addr} {c : Nat} {l : List UInt8} (h : PtB w p c l) (a : Nat) (ha : a ≤ l.length) : PtB w (if c = a then p else p.map (·.add (a * 1))) (c - a) (l.drop a) := by
  obtain ⟨h1, h2, h3, h4⟩ := h
  refine ⟨fun e => ?_, by rw [List.length_drop]; omega, by omega, fun hne => ?_⟩
  · split at e
    · omega
    · cases p with
      | none => have := h1 rfl; omega
      | some x => cases e
  · have hlt : a < l.length := by
      rcases Nat.lt_or_ge a l.length with hh | hh
      · exact hh
      · exact absurd (List.drop_eq_nil_of_le hh) hne
    obtain ⟨b, off, rfl, hc⟩ := h4 (by rintro rfl; simp at hlt)
    rw [if_neg (by omega)]
    refine ⟨b, off + a, by simp [Addr.add], fun i hi => ?_⟩
    rw [List.length_drop] at hi
    have := hc (a + i) (by omega)
    rw [← Nat.add_assoc] at this
    rw [this]
    simp [List.getD]

set_option maxRecDepth 100000 in
set_option maxHeartbeats 800000 in
theorem rd_w (g : Nat) (v : Value) (b : List UInt8) (a : Nat) (e : Int) (w : World) (h : Rdr w g v a e) (hb : RdB w v b) (ha : a ≤ b.length) (hl : b.length ≤ 1000000) :
    Calls Try.prog 73 #[.pointer (some ⟨g, 0, none⟩)] w fun r w' => RegT.Same w w' ∧ ∃ n cnt f : Nat, Form.rd 0 0 (b.drop a) = (n, cnt, f) ∧
      r = .returned (.tuple #[.int .u64 (n : Int), .int .i64 ((if f = 0 then a + cnt else 0 : Nat) : Int), .int .i64 (f : Int)]) := by
  obtain ⟨p, c, rfl, hp⟩ := hb
  have h0 : w.cell? ⟨g, 0, none⟩ = some (.slice p b.length c) := by rw [cell_of_row _ _ _ _ _ _ h]; rfl
  have h1 : w.cell? ⟨g, 1, none⟩ = some (.int .i64 (a : Int)) := by rw [cell_of_row _ _ _ _ _ _ h]; rfl
  have hgl : g < w.heap.size := (Array.getElem?_eq_some_iff.1 h).1
  have hs := fun (w : World) => run_slice_lo (P := Try.prog) 39 5 Try.underlying39 1 (show (Try.prog.info? 5).map (·.size) = some 1 by kernel_rfl) p b.length c a ha w
  have hd := hp.drop a ha
  have hdl : (b.drop a).length = b.length - a := List.length_drop
  generalize (if c = a then p else p.map (·.add (a * 1))) = q at *
  generalize c - a = c2 at *
  rw [← hdl] at hs
  have hdm : (b.drop a).length ≤ 1000000 := by omega
  generalize b.drop a = d at *
  have Hd := Lib.hid hd
  have Hdl := Lib.hid hdl
  clear hd hdl hp h
  go_enter Try.func73, Try.ntmps73
  go_wp2
  go_quiet (fail)
  go_wp2
  go_loopw [2, 5, 6, 17] (fun n _ _ i wr => ∃ k acc : Nat, k ≤ d.length ∧ k ≤ 9 ∧ acc < 128 ^ k ∧ i = .int .i64 (k : Int) ∧ n = .int .u64 (acc : Int) ∧ Form.rd 0 0 d = Form.rd k acc (d.drop k) ∧ RegT.Same w wr) (fun _ _ _ i _ => d.length - (intOf i).toNat)
  case atStart => exact ⟨0, 0, by omega, by omega, by omega, rfl, rfl, rfl, ⟨rfl, rfl, rfl, rfl⟩⟩
  case round =>
    obtain ⟨k, acc, hk, hk9, hacc, rfl, rfl, he, hS⟩ := hrel
    have Hacc := Lib.hid hacc
    have He := Lib.hid he
    have HS := Lib.hid hS
    clear hacc he hS
    by_cases hlt : k < d.length
    · obtain ⟨bq, oq, rfl, hbq, hcq⟩ := (Hd.out.keeps (.of_heap HS.out.heap)).at hlt
      have hdr : d.drop k = d.getD k 0 :: d.drop (k + 1) := by rw [getD_of_lt _ _ _ hlt, List.drop_eq_getElem_cons hlt]
      have hx := UInt8.toNat_lt (d.getD k 0)
      have Hdr := Lib.hid hdr
      clear hdr
      generalize d.getD k 0 = x8 at *
      generalize hx8 : x8.toNat = x at *
      have Hx8 := Lib.hid hx8
      clear hx8
      have hy := and127_u8 x hx
      obtain ⟨y, hyx⟩ : ∃ y, y = x % 128 := ⟨_, rfl⟩
      rw [← hyx] at hy
      have hyw : IntKind.u64.wrap (y : Int) = (y : Int) := IntWalk.u64_in _ (by omega)
      have Hyx := Lib.hid hyx
      clear hyx
      have h1r := HS.out.cell h1
      have Hsucc := Form.rd_step k acc x8 (d.drop (k + 1))
      rw [Hx8.out] at Hsucc
      have Hrd := Lib.hid (He.out.trans ((congrArg _ Hdr.out).trans Hsucc))
      clear Hsucc
      by_cases hbad : k = 9 ∧ 1 < x
      · obtain ⟨h9, h1x⟩ := hbad
        have hd9 : decide ((k : Int) = 9) = true := by simp; omega
        have hd9' : ((k : Int) == 9) = true := by simp; omega
        have H9 := Lib.hid h9
        have h1b : decide (1 < (x : Int)) = true := by simp; omega
        clear h9
        go_wp2
        go_ret3
        refine ⟨HS.out, 0, 0, 5, ?_, rfl⟩
        rw [Hrd.out, if_pos (.inl ⟨H9.out, h1x⟩)]
      · have hz64 : y * 128 ^ k < 2 ^ 64 := by
          have := Hyx.out
          rcases Nat.lt_or_ge k 9 with h | h
          · have h2 : (128 : Nat) ^ k ≤ 128 ^ 8 := Nat.pow_le_pow_right (by decide) (by omega)
            have h3 : y * 128 ^ k ≤ 127 * 128 ^ 8 := Nat.mul_le_mul (by omega) h2
            omega
          · have : k = 9 := by omega
            subst this
            have : y ≤ 1 := by omega
            omega
        have hor := or_u64 acc y k Hacc.out hz64 hk9
        obtain ⟨z, hz⟩ : ∃ z, z = y * 128 ^ k := ⟨_, rfl⟩
        rw [← hz] at hor hz64
        have hsh : IntKind.u64.wrap ((y : Int) * 2 ^ (7 * k)) = (z : Int) := by
          have e : ((y : Int) * 2 ^ (7 * k)) = (z : Int) := by rw [hz, show (128 : Nat) = 2 ^ 7 from rfl, ← Nat.pow_mul]; push_cast; rfl
          rw [e]; exact IntWalk.u64_in _ (by omega)
        obtain ⟨q2, hq2⟩ : ∃ q, q = acc + z := ⟨_, rfl⟩
        rw [← hq2] at hor
        have Hz := Lib.hid hz
        have Hq2 := Lib.hid hq2
        have hrd := Hrd.out
        rw [if_neg (by omega), ← Hyx.out, ← hz, ← hq2] at hrd
        clear hz hq2 hz64
        have hdg : decide (9 < (k : Int)) = false := by simp; omega
        obtain ⟨b9, hb9⟩ : ∃ b9, decide ((k : Int) = 9) = b9 := ⟨_, rfl⟩
        have hb9' : ((k : Int) == 9) = b9 := by rw [← hb9]; rfl
        have hx1 : b9 = true → decide (1 < (x : Int)) = false := fun e => by rw [e] at hb9; simp at hb9 ⊢; omega
        have hxx : b9 = false ∨ (b9 = true ∧ decide (1 < (x : Int)) = false) := by cases b9 <;> simp_all
        clear hx1 hbad
        by_cases hx128 : x < 128
        · rw [if_pos hx128] at hrd
          have Hrd3 := Lib.hid hrd
          clear hrd
          rcases hxx with rfl | ⟨rfl, hx1⟩
          all_goals go_wp2
          all_goals first
            | (go_quiet (fail); go_wp2; go_ret3; refine ⟨RegT.Same.trans _ _ _ HS.out ⟨rfl, rfl, rfl, rfl⟩, q2, k + 1, 0, ?_, ?_⟩
               · rw [Hrd3.out, if_neg (by omega)]
               · rw [if_pos rfl]; push_cast; rfl)
            | (go_ret3; refine ⟨HS.out, 0, 0, 5, ?_, rfl⟩; rw [Hrd3.out, if_pos (by omega)])
        · rw [if_neg hx128] at hrd
          have Hrd3 := Lib.hid hrd
          have hacc2 : q2 < 128 ^ (k + 1) := by
            have h1 := Hacc.out
            have h2 : z ≤ 127 * 128 ^ k := by rw [Hz.out]; exact Nat.mul_le_mul_right _ (by have := Hyx.out; omega)
            rw [Hq2.out, Nat.pow_succ]; omega
          have hk8 : k ≤ 8 := by
            rcases hxx with rfl | ⟨rfl, hx1⟩
            · simp at hb9; omega
            · simp at hx1; omega
          have Hacc2 := Lib.hid hacc2
          clear hrd hacc2
          rcases hxx with rfl | ⟨rfl, hx1⟩
          all_goals go_wp2
          all_goals go_roundw
          all_goals first
            | (refine ⟨k + 1, q2, by omega, by omega, Hacc2.out, by go_num, rfl, Hrd3.out, HS.out⟩)
            | (simp [intOf]; omega)
    · have hkd : k = d.length := by omega
      have he := He.out
      rw [List.drop_of_length_le (by omega)] at he
      have He2 := Lib.hid he
      clear he
      go_wp2
      go_ret3
      exact ⟨HS.out, 0, 0, 4, He2.out, rfl⟩
end Go.Proofs.Ytoflehlkacofjaa
