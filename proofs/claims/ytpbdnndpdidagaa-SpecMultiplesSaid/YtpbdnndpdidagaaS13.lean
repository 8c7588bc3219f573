/- What is known of the small data. -/
import Derived.Test.YtpbdnndpdidagaaS12
namespace Go.Proofs.Ytpbdnndpdidagaa
open Go.ChangeShapes Go.WideShapes Go.ChangeAt Go.RowKit
set_option linter.unusedVariables false

theorem SpAt.load {w : World} {B : Nat} {s : Sp} (h : SpAt w B s) : (loadVar 66 ⟨B, 0, none⟩).run Try.prog w = .ok (.agg s.cells) w :=
  run_loadVar_row (P := Try.prog) w B 66 66 s.cells (0, 0) _ h Try.underlying66 rfl (show _ = some 25 by kernel_rfl)

theorem load_exec {o : Oper} {e : Operand → Value} {W : World} {B : Nat} {s : Sp} (x : Operand) (ho : o.op = .load 66 x) (hx : e x = .pointer (some ⟨B, 0, none⟩)) (h : SpAt W B s) :
    (execOp e o).run Try.prog W = .ok (.value (.agg s.cells)) W := by
  have hl := h.load
  unfold execOp
  simp only [ho, hx, Instr.loadAt, Instr.sureAddr, Sem.run_bind, Sem.run_pure, Result.andThen_ok, hl]
set_option maxRecDepth 100000 in
set_option maxHeartbeats 1600000 in
theorem known4_in_w (s : Sp) (hs : ∀ w, Calls Try.prog 63 #[] w fun r w' => r = .returned (.agg s.cells) ∧ Below w.heap.size w w') (hok : s.ok) (hm : s.mayB = true) (hp : s.isPrice 1001 = false)
    (he1 : ∀ W, (eqGuard .eql 66 (.tmp 26) (.tmp 27) (.agg s.cells) (.agg s.cells)).run Try.prog W = .ok () W) (he2 : ∀ W, (binOp .eql 66 (.agg s.cells) (.agg s.cells)).run Try.prog W = .ok (.bool true) W) (w : World) :
    Calls Try.prog 46 #[] w fun r w' => r = .returned (.bool true) ∧ Below w.heap.size w w' := by
  have Hs := Lib.hid hs
  have Hok := Lib.hid hok
  have Hm := Lib.hid hm
  have hbk := Sp.back_form s hok hm
  have Hbk := Lib.hid hbk
  have hlen : s.form.length ≤ 1000000 := by
    have h1 := s.formA_le 6
    have h2 := s.formB_le hok 16
    have h3 := Form.nat_len10 (Form.u64_lt s.credit)
    have h4 := Form.nat_len10 (Form.u64_lt s.last)
    have h5 := Form.nat_len10 (Form.u64_lt s.first)
    unfold Sp.form; simp only [List.length_append]; omega
  have Hlen := Lib.hid hlen
  have Hp := Lib.hid hp
  clear hs hok hm hbk hlen hp
  go_enter Try.func46, Try.ntmps46
  go_wp2_with (first
    | (go_at_call 63; refine (Hs.out _).mono ?_; rintro r w1 ⟨rfl, hB⟩; have HB1 := Lib.hid hB; clear hB)
    | (go_at_call 47
       refine (bytes_w s _ Hok.out Hm.out).mono ?_
       rintro r w2 ⟨p, k, c, rfl, hk, ho, hB⟩
       have Ho := Lib.hid ho.rd
       have HB2 := Lib.hid (HB1.out.trans (hB.mono HB1.out.size))
       clear hk ho hB)
    | (go_at_call 52
       refine (read_w _ s.form _ Ho.out Hlen.out).mono ?_
       rintro r w3 ⟨rfl, hB⟩
       rw [Hbk.out.1, Hbk.out.2]
       have HB3 := Lib.hid (HB2.out.trans (hB.mono HB2.out.size))
       have HN3 := Lib.hid (SpAt.new w3 Sp.zero)
       clear hB)
    | (refine wpList_alloc_zero rfl 66 rfl _ hz66 ?_)
    | (refine wpList_store_rowTo rfl 66 (.tmp 3) (.tmp 13) rfl rfl _ s.cells rfl rfl 66 Sp.zero.cells HN3.out (show _ = some 25 by kernel_rfl) rfl (cells_one _) ?_))
  have hk4 : Keeps w3 ((w3.alloc (.cells Sp.zero.cells 66)).setRow w3.heap.size s.cells) := fun k hk => by
    rw [setRow_other _ _ _ _ (by omega), Below.heap_alloc w3 _ k hk]
  have hB4 : Below w3.heap.size w3 ((w3.alloc (.cells Sp.zero.cells 66)).setRow w3.heap.size s.cells) := ⟨rfl, rfl, rfl, by simp [World.setRow], hk4⟩
  have HB4 := Lib.hid (HB3.out.trans (hB4.mono HB3.out.size))
  have HN4 := Lib.hid (show SpAt ((w3.alloc (.cells Sp.zero.cells 66)).setRow w3.heap.size s.cells) w3.heap.size s from setRow_heap _ _ _ _ _ _ HN3.out)
  clear hk4 hB4
  generalize (w3.alloc (.cells Sp.zero.cells 66)).setRow w3.heap.size s.cells = w4 at *
  generalize w3.heap.size = N at *
  apply RegT.wp_region_T rfl 35 20 rfl (by kernel_rfl) RegT.Grow RegT.Grow.refl RegT.Grow.trans
  · apply RegT.T_const rfl rfl rfl (.agg s.cells) (fun _ _ h => h)
    · intro W hR _
      have Hc := Lib.hid (Hs.out W)
      clear hR
      go_simp
      exact RegT.OpOK_enter Hc.out (fun e w' h => ⟨_, h.1, rfl, h.2⟩)
    simp only [List.set_cons_succ, List.set_cons_zero, Nat.reduceAdd]
    apply RegT.T_const rfl rfl rfl (.bool true) (fun _ _ h => h)
    · intro W hR _
      have Hc := Lib.hid (by have := may_w s W Hok.out; rw [Hm.out] at this; exact this)
      clear hR
      go_simp
      exact RegT.OpOK_enter Hc.out (fun e w' h => ⟨_, h.1, rfl, h.2⟩)
    simp only [List.set_cons_succ, List.set_cons_zero, Nat.reduceAdd]
    iterate 9
      apply RegT.T_pure rfl rfl rfl
      · intro W hR; go_simp; rfl
      simp only [List.set_cons_succ, List.set_cons_zero, Nat.reduceAdd]
    apply RegT.T_pure (v := .agg s.cells) rfl rfl rfl
    · exact fun W hR => load_exec (.tmp 3) rfl rfl (HN4.out.below (Below.trans (Below.refl w4.heap.size w4).drew hR))
    simp only [List.set_cons_succ, List.set_cons_zero, Nat.reduceAdd]
    apply RegT.T_const rfl rfl rfl (.agg s.cells) (fun _ _ h => h)
    · intro W hR _
      have Hc := Lib.hid (Hs.out W)
      clear hR
      go_simp
      exact RegT.OpOK_enter Hc.out (fun e w' h => ⟨_, h.1, rfl, h.2⟩)
    simp only [List.set_cons_succ, List.set_cons_zero, Nat.reduceAdd]
    apply RegT.T_pure (v := .bool true) rfl rfl rfl
    · intro W hR
      have hl1 := he1 W
      have hl2 := he2 W
      clear hR
      unfold execOp
      simp only [Act.eval]
      first
        | (simp [hl1, hl2]; done)
        | (go_simp; rw [hl1]; go_simp; rw [hl2]; go_simp)
    simp only [List.set_cons_succ, List.set_cons_zero, Nat.reduceAdd]
    iterate 2
      apply RegT.T_pure rfl rfl rfl
      · intro W hR; go_simp; rfl
      simp only [List.set_cons_succ, List.set_cons_zero, Nat.reduceAdd]
    apply RegT.T_pure (v := .agg s.cells) rfl rfl rfl
    · exact fun W hR => load_exec (.tmp 3) rfl rfl (HN4.out.below (Below.trans (Below.refl w4.heap.size w4).drew hR))
    simp only [List.set_cons_succ, List.set_cons_zero, Nat.reduceAdd]
    apply RegT.T_const rfl rfl rfl (.bool false) (fun _ _ h => h)
    · intro W hR _
      have Hc := Lib.hid (by have := isprice_w s 1001 W Hok.out; rw [Hp.out] at this; exact this)
      clear hR
      go_simp
      exact RegT.OpOK_enter Hc.out (fun e w' h => ⟨_, h.1, rfl, h.2⟩)
    simp only [List.set_cons_succ, List.set_cons_zero, Nat.reduceAdd]
    iterate 2
      apply RegT.T_pure rfl rfl rfl
      · intro W hR; go_simp; rfl
      simp only [List.set_cons_succ, List.set_cons_zero, Nat.reduceAdd]
    refine RegT.T_tail (fun W hR hf => ?_)
    have HR := Lib.hid hR
    clear hR hf
    simp only [List.drop_succ_cons, List.drop_zero]
    go_wp2
    go_ret
    exact ⟨rfl, HB4.out.trans ((Below.trans (Below.refl w4.heap.size w4).drew HR.out).mono HB4.out.size)⟩
  · rfl
  · kernel_rfl
theorem known4_w (w : World) : Calls Try.prog 46 #[] w fun r w' => r = .returned (.bool true) ∧ Below w.heap.size w w' :=
  known4_in_w Sp.sm sm_w Sp.sm_ok Sp.sm_may Sp.sm_price (fun _ => by kernel_rfl) (fun _ => by kernel_rfl) w
end Go.Proofs.Ytpbdnndpdidagaa
