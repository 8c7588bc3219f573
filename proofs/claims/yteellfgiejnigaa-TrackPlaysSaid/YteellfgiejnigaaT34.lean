/- The law of TrackPlays, joined out of its cases. -/
import Derived.Test.YteellfgiejnigaaT35
namespace Go.Proofs.Yteellfgiejnigaa
open Go.ChangeShapes Go.WideShapes Go.ChangeAt Go.RowKit
set_option linter.unusedVariables false

theorem OpsV.tame {w : World} {lv : Value} {ls : List Opd} (h2 : OpsV w lv ls) : Calls Try.prog 21 #[lv] w fun r w' => r = .returned (.bool (tameR (ls.map (·.2.2.2.2)))) ∧ Below w.heap.size w w' :=
  tame_w lv _ w h2.opsL (fun x hx e he => by
    obtain ⟨o, ho, rfl⟩ := List.mem_map.1 hx
    obtain ⟨p, c, _, _, hall⟩ := h2
    exact Nat.le_trans ((hall o ho).2.2.2.2 e he) (by decide))
theorem OpsV.form {w : World} {lv : Value} {ls : List Opd} (h2 : OpsV w lv ls) : ∃ p n c, lv = .slice p n c := by obtain ⟨p, c, e, _⟩ := h2; exact ⟨p, _, c, e⟩
set_option maxRecDepth 100000 in
set_option maxHeartbeats 3200000 in
theorem plays_many_w (B0 T0 : Nat) (v lv : Value) (fs : List Ent) (ls : List Opd) (w : World) (h1 : EsR w (fun b => b < w.heap.size) v fs) (h2 : OpsV w lv ls) (hl1 : 30 < fs.length) :
    Calls Try.prog 6 #[.int .u64 (B0 : Int), .int .u64 (T0 : Int), v, lv] w fun r w' => r = .returned (.bool true) ∧ Below w.heap.size w w' := by
  obtain ⟨p1, c1, rfl⟩ := h1.len_form
  obtain ⟨pl, nl, cl, rfl⟩ := h2.form
  have d1 : decide (30 < (fs.length : Int)) = true := by simp; omega
  clear h1 h2
  generalize fs.length = n1 at *
  go_enter Try.func6, Try.ntmps6
  go_wp2_with (go_at_call 15; refine (known24_w _).mono ?_; rintro r w13 ⟨rfl, hB⟩; have HB13 := Lib.hid hB; clear hB)
  go_ret
  exact ⟨rfl, HB13.out⟩
set_option maxRecDepth 100000 in
set_option maxHeartbeats 3200000 in
theorem plays_wild1_w (B0 T0 : Nat) (v lv : Value) (fs : List Ent) (ls : List Opd) (w : World) (h1 : EsR w (fun b => b < w.heap.size) v fs) (h2 : OpsV w lv ls) (hl1 : fs.length ≤ 30) (ht : tameR (ls.map (·.2.2.2.2)) = false) :
    Calls Try.prog 6 #[.int .u64 (B0 : Int), .int .u64 (T0 : Int), v, lv] w fun r w' => r = .returned (.bool true) ∧ Below w.heap.size w w' := by
  obtain ⟨p1, c1, rfl⟩ := h1.len_form
  have HTm := Lib.hid h2.tame
  rw [ht] at HTm
  obtain ⟨pl, nl, cl, rfl⟩ := h2.form
  have d1 : decide (30 < (fs.length : Int)) = false := by simp; omega
  clear h1 h2
  generalize fs.length = n1 at *
  go_enter Try.func6, Try.ntmps6
  go_wp2_with (first
    | (go_at_call 21; refine (HTm.out).mono ?_; rintro r w2 ⟨rfl, hB⟩; have HB2 := Lib.hid hB; clear hB HTm)
    | (go_at_call 15; refine (known24_w _).mono ?_; rintro r w13 ⟨rfl, hB⟩; have HB13 := Lib.hid (HB2.out.trans (hB.mono HB2.out.size)); clear hB))
  go_ret
  exact ⟨rfl, HB13.out⟩
set_option maxRecDepth 100000 in
set_option maxHeartbeats 3200000 in
theorem plays_wild2_w (B0 T0 : Nat) (v lv : Value) (fs : List Ent) (ls : List Opd) (w : World) (h1 : EsR w (fun b => b < w.heap.size) v fs) (k1 : ∀ e ∈ fs, e.2.length ≤ 140737488351232) (h2 : OpsV w lv ls) (hl1 : fs.length ≤ 30) (ht : tameR (ls.map (·.2.2.2.2)) = true) (ht2 : tameR [fs] = false) :
    Calls Try.prog 6 #[.int .u64 (B0 : Int), .int .u64 (T0 : Int), v, lv] w fun r w' => r = .returned (.bool true) ∧ Below w.heap.size w w' := by
  obtain ⟨p1, c1, rfl⟩ := h1.len_form
  have HTm := Lib.hid h2.tame
  rw [ht] at HTm
  have HTm2 := Lib.hid (fun W (hW : EsR W (fun b => b < w.heap.size) (.slice p1 fs.length c1) fs) => tame1_w _ fs W _ hW k1)
  rw [ht2] at HTm2
  have H1 := Lib.hid h1
  obtain ⟨pl, nl, cl, rfl⟩ := h2.form
  have d1 : decide (30 < (fs.length : Int)) = false := by simp; omega
  clear h1 h2 k1
  go_enter Try.func6, Try.ntmps6
  go_wp2_with (first
    | (go_at_call 21; first
        | (refine (HTm.out).mono ?_; rintro r w1 ⟨rfl, hB⟩; have HE1 := Lib.hid (H1.out.keeps hB.block); have HB1a := Lib.hid (hB.trans ((tame1_b w1 (.slice p1 fs.length c1)).mono hB.size)); clear hB HTm)
        | (refine (HTm2.out _ HE1.out).mono ?_; rintro r w2 ⟨rfl, hB⟩; have HB2 := Lib.hid (HB1a.out.trans (hB.mono HB1a.out.size)); clear hB HTm2))
    | (go_at_call 15; refine (known24_w _).mono ?_; rintro r w13 ⟨rfl, hB⟩; have HB13 := Lib.hid (HB2.out.trans (hB.mono HB2.out.size)); clear hB))
  go_ret
  exact ⟨rfl, HB13.out⟩
theorem plays_law_w (B0 T0 : Nat) (v lv : Value) (fs : List Ent) (ls : List Opd) (w : World) (h1 : EsR w (fun b => b < w.heap.size) v fs) (k1 : ∀ e ∈ fs, e.2.length ≤ 140737488351232) (h2 : OpsV w lv ls) (hB : B0 < 2 ^ 64) (hT : T0 < 2 ^ 64) :
    Calls Try.prog 6 #[.int .u64 (B0 : Int), .int .u64 (T0 : Int), v, lv] w fun r w' => r = .returned (.bool true) ∧ Below w.heap.size w w' := by
  by_cases hl1 : 30 < fs.length
  · exact plays_many_w B0 T0 v lv fs ls w h1 h2 hl1
  have hl1 : fs.length ≤ 30 := by omega
  cases ht : tameR (ls.map (·.2.2.2.2)) with
  | false => exact plays_wild1_w B0 T0 v lv fs ls w h1 h2 hl1 ht
  | true =>
    cases ht2 : tameR [fs] with
    | false => exact plays_wild2_w B0 T0 v lv fs ls w h1 k1 h2 hl1 ht ht2
    | true => exact plays_go_w B0 T0 v lv fs ls w h1 k1 h2 hB hT hl1 ht ht2
end Go.Proofs.Yteellfgiejnigaa
