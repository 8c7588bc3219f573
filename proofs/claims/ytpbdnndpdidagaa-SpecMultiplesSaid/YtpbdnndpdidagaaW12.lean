/- Walks of the document's reader: the number. -/
import Derived.Test.YtpbdnndpdidagaaW11
namespace Go.Proofs.Ytpbdnndpdidagaa
open Go.ChangeShapes Go.WideShapes Go.ChangeAt Go.RowKit
set_option linter.unusedVariables false

/-- The document's reader lies at block g. -/
def RRd (w : World) (g : Nat) (T : TypeId) (v : Value) (e : Int) : Prop := w.heap[g]? = some (.cells #[v, .int .i64 e] T)
theorem RRd.lt {w : World} {g : Nat} {T : TypeId} {v : Value} {e : Int} (h : RRd w g T v e) : g < w.heap.size := (Array.getElem?_eq_some_iff.1 h).1
theorem RRd.cell0 {w : World} {g : Nat} {T : TypeId} {v : Value} {e : Int} (h : RRd w g T v e) : w.cell? ⟨g, 0, none⟩ = some v := by rw [cell_of_row _ _ _ _ _ _ h]; rfl
theorem RRd.cell1 {w : World} {g : Nat} {T : TypeId} {v : Value} {e : Int} (h : RRd w g T v e) : w.cell? ⟨g, 1, none⟩ = some (.int .i64 e) := by rw [cell_of_row _ _ _ _ _ _ h]; rfl
theorem RRd.frozen {w : World} {g : Nat} {T : TypeId} {v : Value} {e : Int} (h : RRd w g T v e) (i : Nat) : w.frozen? ⟨g, i, none⟩ = false := by
  unfold RRd at h
  simp [World.frozen?, h]
theorem RRd.set0 {w : World} {g : Nat} {T : TypeId} {v : Value} {e : Int} (h : RRd w g T v e) (v' : Value) : RRd (w.setCell ⟨g, 0, none⟩ v') g T v' e := by
  unfold RRd at *
  simp only [World.setCell, Array.getElem?_modify, h]; rfl
theorem RRd.set1 {w : World} {g : Nat} {T : TypeId} {v : Value} {e : Int} (h : RRd w g T v e) (e' : Int) : RRd (w.setCell ⟨g, 1, none⟩ (.int .i64 e')) g T v e' := by
  unfold RRd at *
  simp only [World.setCell, Array.getElem?_modify, h]; rfl

set_option maxRecDepth 100000 in
set_option maxHeartbeats 1600000 in
theorem refrd_w (g : Nat) (T : TypeId) (v : Value) (e : Int) (d : List UInt8) (w : World) (h : RRd w g T v e) (hb : RdB w v d) (hl : d.length ≤ 1000000) :
    Calls Try.prog 62 #[.pointer (some ⟨g, 0, none⟩)] w fun r w' => w = w' ∧ ∃ n c f : Nat, Form.rd 0 0 d = (n, c, f) ∧ r = .returned (.tuple #[.int .u64 (n : Int), .int .i64 (c : Int), .int .i64 (f : Int)]) := by
  obtain ⟨p, c, rfl, hp⟩ := hb
  have h0 := h.cell0
  have hle := Form.lead_le d
  have hrd := Form.rdR_eq d
  have hbig := fun k (hk : k < d.length) => hp.at hk
  have Hp := Lib.hid hp
  have Hbig := Lib.hid hbig
  have Hrd := Lib.hid hrd
  have Hle := Lib.hid hle
  clear h hp hbig hrd
  obtain ⟨K, hK⟩ : ∃ K, Form.lead d = K := ⟨_, rfl⟩
  have HK := Lib.hid hK
  rw [hK] at hle
  clear hK
  go_enter Try.func62, Try.ntmps62
  go_wp2
  go_loop [5] (fun i => ∃ k : Nat, k ≤ K ∧ i = .int .i64 (k : Int)) (fun i => d.length - (intOf i).toNat)
  case atStart => exact ⟨0, Nat.zero_le _, rfl⟩
  case round =>
    obtain ⟨k, hk, rfl⟩ := hrel
    by_cases hlt : k < K
    · obtain ⟨bq, oq, rfl, hbq, hcq⟩ := Hbig.out k (by omega)
      have hx := Form.lead_big d k (by rw [HK.out]; exact hlt)
      generalize (d.getD k 0).toNat = x at *
      have hkd : k < d.length := by omega
      have hx' : (128 : Int) ≤ (x : Int) := by omega
      go_wp2
      go_round
      case rel => exact ⟨k + 1, by omega, by go_num⟩
      case measure => simp [intOf]; omega
    · have hkK : k = K := by omega
      subst hkK
      by_cases hkd : k < d.length
      · have hne : d ≠ [] := by rintro rfl; simp at hkd
        obtain ⟨bq, oq, rfl, hcs⟩ := Hp.out.2.2.2 hne
        have hcq := hcs k hkd
        have Hcs := Lib.hid hcs
        have hx := Form.lead_end d (by rw [HK.out]; exact hkd)
        rw [HK.out] at hx
        have hf : Form.rd 0 0 d = if 9 < k ∨ (k = 9 ∧ 1 < (d.getD k 0).toNat) ∨ (0 < k ∧ (d.getD k 0).toNat = 0) then (0, 0, 5) else (Form.val (d.take (k + 1)), k + 1, 0) := by
          rw [← Hrd.out]; unfold Form.rdR; rw [HK.out, if_neg (by omega)]
          by_cases h9 : k = 9
          · rw [h9]
          · congr 1; apply propext; constructor <;> (intro h; rcases h with h | h | h) <;> omega
        have hv : (9 < k ∨ (k = 9 ∧ 1 < (d.getD k 0).toNat) ∨ (0 < k ∧ (d.getD k 0).toNat = 0)) ∨ Form.val (d.take (k + 1)) < 2 ^ 64 := by
          by_cases hb : 9 < k ∨ (k = 9 ∧ 1 < (d.getD k 0).toNat) ∨ (0 < k ∧ (d.getD k 0).toNat = 0)
          · exact .inl hb
          · refine .inr ?_
            rw [if_neg hb, ← Hrd.out] at hf
            have := Form.val_lt d (by rw [HK.out]; exact hf)
            rwa [HK.out] at this
        have Hf := Lib.hid hf
        have Hv := Lib.hid hv
        have hx0 : (0 : Int) ≤ ((d.getD k 0).toNat : Int) := Int.natCast_nonneg _
        generalize hxx : (d.getD k 0).toNat = x at *
        clear hf hv hcs hxx
        have hA : 9 < k ∨ (k = 9 ∧ (1 < x ∨ x = 0 ∨ x = 1)) ∨ (k < 9 ∧ 0 < k ∧ x = 0) ∨ (k < 9 ∧ 0 < k ∧ 0 < x) ∨ k = 0 := by omega
        rcases hA with h9 | ⟨rfl, h1 | rfl | rfl⟩ | ⟨h9, hk0, rfl⟩ | ⟨h9, hk0, hx1⟩ | rfl
        · go_wp2
          go_ret3
          exact ⟨rfl, 0, 0, 5, by rw [Hf.out, if_pos (.inl h9)], rfl⟩
        · go_wp2
          go_ret3
          exact ⟨rfl, 0, 0, 5, by rw [Hf.out, if_pos (by first | omega | (simp; done) | (simp; omega))], rfl⟩
        · go_wp2
          go_ret3
          exact ⟨rfl, 0, 0, 5, by rw [Hf.out, if_pos (by first | omega | (simp; done) | (simp; omega))], rfl⟩
        · have hgf : Form.rd 0 0 d = (Form.val (d.take (9 + 1)), 9 + 1, 0) := Hf.out.trans (if_neg (by first | omega | (simp; done) | (simp; omega)))
          have hgv : Form.val (d.take (9 + 1)) < 2 ^ 64 := Hv.out.resolve_left (by first | omega | (simp; done) | (simp; omega))
          have htl : (d.take (9 + 1)).length = 9 + 1 := by rw [List.length_take]; omega
          have htd : ∀ j, j < 9 + 1 → (d.take (9 + 1)).getD j 0 = d.getD j 0 := fun j hj => by simp only [List.getD, List.getElem?_take, hj, if_true]
          have Hgf := Lib.hid hgf
          generalize d.take (9 + 1) = t at *
          have Hgv := Lib.hid hgv
          have Htl := Lib.hid htl
          have Htd := Lib.hid htd
          clear hgf hgv htl htd Hf Hv
          go_wp2
          go_loop [6, 7] (fun n i => ∃ m : Nat, m ≤ 9 + 1 ∧ i = .int .i64 ((m : Int) - 1) ∧ n = .int .u64 ((Form.val (t.drop m) : Nat) : Int)) (fun _ i => (intOf i + 1).toNat)
          case atStart => exact ⟨9 + 1, Nat.le_refl _, by simp, by rw [List.drop_of_length_le (by rw [Htl.out]; omega)]; rfl⟩
          case round =>
            obtain ⟨m, hm, rfl, rfl⟩ := hrel
            cases m with
            | zero =>
              have e1 : ((0 : Nat) : Int) - 1 = -1 := by simp
              rw [e1, List.drop_zero]
              go_wp2
              go_ret3
              exact ⟨rfl, _, _, _, Hgf.out, rfl⟩
            | succ j =>
              have e1 : ((j + 1 : Nat) : Int) - 1 = (j : Int) := by omega
              rw [e1]
              have hcj := Hcs.out j (by omega)
              have hst := Form.val_step t j (by rw [Htl.out]; omega)
              have hle2 := Form.val_le t j
              rw [Htd.out j (by omega)] at hst
              have hxb := UInt8.toNat_lt (d.getD j 0)
              generalize (d.getD j 0).toNat = xj at *
              obtain ⟨r, hr⟩ : ∃ r, Form.val (t.drop j) = r := ⟨_, rfl⟩
              obtain ⟨q, hq⟩ : ∃ q, Form.val (t.drop (j + 1)) = q := ⟨_, rfl⟩
              have Hr := Lib.hid hr
              rw [hr] at hst hle2
              rw [hq] at hst ⊢
              obtain ⟨y, hy⟩ : ∃ y, y = xj % 128 := ⟨_, rfl⟩
              obtain ⟨z, hz⟩ : ∃ z, z = q * 128 := ⟨_, rfl⟩
              have hr64 := Hgv.out
              have e2 : (xj : Int) % 128 = (y : Int) := by omega
              have e3 : IntKind.u64.wrap ((q : Int) * 128) = (z : Int) := by rw [show (q : Int) * 128 = (z : Int) by omega]; exact IntWalk.u64_in _ (by omega)
              have e4 : IntKind.u64.wrap ((z : Int) + (y : Int)) = (r : Int) := by rw [show (z : Int) + (y : Int) = (r : Int) by omega]; exact IntWalk.u64_in _ (by omega)
              clear hst hle2 hr64 hy hz hq hr e1
              go_wp2
              go_round
              case rel => exact ⟨j, by omega, rfl, by rw [Hr.out]⟩
              case measure => simp [intOf]
        · go_wp2
          go_ret3
          exact ⟨rfl, 0, 0, 5, by rw [Hf.out, if_pos (by first | omega | (simp; done) | (simp; omega))], rfl⟩
        · have hgf : Form.rd 0 0 d = (Form.val (d.take (k + 1)), k + 1, 0) := Hf.out.trans (if_neg (by first | omega | (simp; done) | (simp; omega)))
          have hgv : Form.val (d.take (k + 1)) < 2 ^ 64 := Hv.out.resolve_left (by first | omega | (simp; done) | (simp; omega))
          have htl : (d.take (k + 1)).length = k + 1 := by rw [List.length_take]; omega
          have htd : ∀ j, j < k + 1 → (d.take (k + 1)).getD j 0 = d.getD j 0 := fun j hj => by simp only [List.getD, List.getElem?_take, hj, if_true]
          have Hgf := Lib.hid hgf
          generalize d.take (k + 1) = t at *
          have Hgv := Lib.hid hgv
          have Htl := Lib.hid htl
          have Htd := Lib.hid htd
          clear hgf hgv htl htd Hf Hv
          have hd9 : decide ((k : Int) = 9) = false := by simp; omega
          have hd9' : ((k : Int) == 9) = false := by simp; omega
          have hx2 : decide ((x : Int) = 0) = false := by simp; omega
          have hx2' : ((x : Int) == 0) = false := by simp; omega
          go_wp2
          go_loop [6, 7] (fun n i => ∃ m : Nat, m ≤ k + 1 ∧ i = .int .i64 ((m : Int) - 1) ∧ n = .int .u64 ((Form.val (t.drop m) : Nat) : Int)) (fun _ i => (intOf i + 1).toNat)
          case atStart => exact ⟨k + 1, Nat.le_refl _, by simp, by rw [List.drop_of_length_le (by rw [Htl.out]; omega)]; rfl⟩
          case round =>
            obtain ⟨m, hm, rfl, rfl⟩ := hrel
            cases m with
            | zero =>
              have e1 : ((0 : Nat) : Int) - 1 = -1 := by simp
              rw [e1, List.drop_zero]
              go_wp2
              go_ret3
              exact ⟨rfl, _, _, _, Hgf.out, rfl⟩
            | succ j =>
              have e1 : ((j + 1 : Nat) : Int) - 1 = (j : Int) := by omega
              rw [e1]
              have hcj := Hcs.out j (by omega)
              have hst := Form.val_step t j (by rw [Htl.out]; omega)
              have hle2 := Form.val_le t j
              rw [Htd.out j (by omega)] at hst
              have hxb := UInt8.toNat_lt (d.getD j 0)
              generalize (d.getD j 0).toNat = xj at *
              obtain ⟨r, hr⟩ : ∃ r, Form.val (t.drop j) = r := ⟨_, rfl⟩
              obtain ⟨q, hq⟩ : ∃ q, Form.val (t.drop (j + 1)) = q := ⟨_, rfl⟩
              have Hr := Lib.hid hr
              rw [hr] at hst hle2
              rw [hq] at hst ⊢
              obtain ⟨y, hy⟩ : ∃ y, y = xj % 128 := ⟨_, rfl⟩
              obtain ⟨z, hz⟩ : ∃ z, z = q * 128 := ⟨_, rfl⟩
              have hr64 := Hgv.out
              have e2 : (xj : Int) % 128 = (y : Int) := by omega
              have e3 : IntKind.u64.wrap ((q : Int) * 128) = (z : Int) := by rw [show (q : Int) * 128 = (z : Int) by omega]; exact IntWalk.u64_in _ (by omega)
              have e4 : IntKind.u64.wrap ((z : Int) + (y : Int)) = (r : Int) := by rw [show (z : Int) + (y : Int) = (r : Int) by omega]; exact IntWalk.u64_in _ (by omega)
              clear hst hle2 hr64 hy hz hq hr e1
              go_wp2
              go_round
              case rel => exact ⟨j, by omega, rfl, by rw [Hr.out]⟩
              case measure => simp [intOf]
        · have hgf : Form.rd 0 0 d = (Form.val (d.take (0 + 1)), 0 + 1, 0) := Hf.out.trans (if_neg (by first | omega | (simp; done) | (simp; omega)))
          have hgv : Form.val (d.take (0 + 1)) < 2 ^ 64 := Hv.out.resolve_left (by first | omega | (simp; done) | (simp; omega))
          have htl : (d.take (0 + 1)).length = 0 + 1 := by rw [List.length_take]; omega
          have htd : ∀ j, j < 0 + 1 → (d.take (0 + 1)).getD j 0 = d.getD j 0 := fun j hj => by simp only [List.getD, List.getElem?_take, hj, if_true]
          have Hgf := Lib.hid hgf
          generalize d.take (0 + 1) = t at *
          have Hgv := Lib.hid hgv
          have Htl := Lib.hid htl
          have Htd := Lib.hid htd
          clear hgf hgv htl htd Hf Hv
          rw [Nat.add_zero] at hcq
          go_wp2
          go_loop [6, 7] (fun n i => ∃ m : Nat, m ≤ 0 + 1 ∧ i = .int .i64 ((m : Int) - 1) ∧ n = .int .u64 ((Form.val (t.drop m) : Nat) : Int)) (fun _ i => (intOf i + 1).toNat)
          case atStart => exact ⟨0 + 1, Nat.le_refl _, by simp, by rw [List.drop_of_length_le (by rw [Htl.out]; omega)]; rfl⟩
          case round =>
            obtain ⟨m, hm, rfl, rfl⟩ := hrel
            cases m with
            | zero =>
              have e1 : ((0 : Nat) : Int) - 1 = -1 := by simp
              rw [e1, List.drop_zero]
              go_wp2
              go_ret3
              exact ⟨rfl, _, _, _, Hgf.out, rfl⟩
            | succ j =>
              have e1 : ((j + 1 : Nat) : Int) - 1 = (j : Int) := by omega
              rw [e1]
              have hcj := Hcs.out j (by omega)
              have hst := Form.val_step t j (by rw [Htl.out]; omega)
              have hle2 := Form.val_le t j
              rw [Htd.out j (by omega)] at hst
              have hxb := UInt8.toNat_lt (d.getD j 0)
              generalize (d.getD j 0).toNat = xj at *
              obtain ⟨r, hr⟩ : ∃ r, Form.val (t.drop j) = r := ⟨_, rfl⟩
              obtain ⟨q, hq⟩ : ∃ q, Form.val (t.drop (j + 1)) = q := ⟨_, rfl⟩
              have Hr := Lib.hid hr
              rw [hr] at hst hle2
              rw [hq] at hst ⊢
              obtain ⟨y, hy⟩ : ∃ y, y = xj % 128 := ⟨_, rfl⟩
              obtain ⟨z, hz⟩ : ∃ z, z = q * 128 := ⟨_, rfl⟩
              have hr64 := Hgv.out
              have e2 : (xj : Int) % 128 = (y : Int) := by omega
              have e3 : IntKind.u64.wrap ((q : Int) * 128) = (z : Int) := by rw [show (q : Int) * 128 = (z : Int) by omega]; exact IntWalk.u64_in _ (by omega)
              have e4 : IntKind.u64.wrap ((z : Int) + (y : Int)) = (r : Int) := by rw [show (z : Int) + (y : Int) = (r : Int) by omega]; exact IntWalk.u64_in _ (by omega)
              clear hst hle2 hr64 hy hz hq hr e1
              go_wp2
              go_round
              case rel => exact ⟨j, by omega, rfl, by rw [Hr.out]⟩
              case measure => simp [intOf]
      · have hkd2 : k = d.length := by omega
        have hf : Form.rd 0 0 d = if 10 ≤ k then (0, 0, 5) else (0, 0, 4) := by
          rw [← Hrd.out]; unfold Form.rdR; rw [HK.out, if_pos (by omega)]
        have Hf := Lib.hid hf
        have hq : decide ((k : Int) < (d.length : Int)) = false := by simp; omega
        have hq2 : decide ((d.length : Int) ≤ (k : Int)) = true := by simp; omega
        clear hf hkd2
        by_cases h10 : 10 ≤ k
        · go_wp2
          go_ret3
          exact ⟨rfl, 0, 0, 5, by rw [Hf.out, if_pos h10], rfl⟩
        · go_wp2
          go_ret3
          exact ⟨rfl, 0, 0, 4, by rw [Hf.out, if_neg h10], rfl⟩

/-- The document's reader at block g has these bytes left now, and this fault; all else is as it was. -/
def RMoved (w w' : World) (g : Nat) (T : TypeId) (v : Value) (e : Int) : Prop := RRd w' g T v e ∧ w.grownBy w' (some g)
theorem rmoved_set0 {w : World} {g : Nat} {T : TypeId} {v : Value} {e : Int} (h : RRd w g T v e) (v' : Value) : RMoved w (w.setCell ⟨g, 0, none⟩ v') g T v' e := ⟨h.set0 v', Lib.grownBy_setCell w g 0 _⟩
theorem rmoved_set1 {w : World} {g : Nat} {T : TypeId} {v : Value} {e : Int} (h : RRd w g T v e) (e' : Int) : RMoved w (w.setCell ⟨g, 1, none⟩ (.int .i64 e')) g T v e' := ⟨h.set1 e', Lib.grownBy_setCell w g 1 _⟩
theorem RdB.dropped {w : World} {p : Option Addr} {c : Nat} {l : List UInt8} (h : RdB w (.slice p l.length c) l) (a : Nat) (ha : a ≤ l.length) : RdB w (.slice (if c = a then p else p.map (·.add (a * 1))) (l.length - a) (c - a)) (l.drop a) := by
  obtain ⟨p', c', e, hp⟩ := h
  cases e
  exact ⟨_, _, by rw [List.length_drop], hp.drop a ha⟩

end Go.Proofs.Ytpbdnndpdidagaa
