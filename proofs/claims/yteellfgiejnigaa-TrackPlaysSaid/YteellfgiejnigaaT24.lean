/- Entries in memory of their own: the walk of the document's Copied. -/
import Derived.Test.YteellfgiejnigaaT23
namespace Go.Proofs.Yteellfgiejnigaa
open Go.ChangeShapes Go.WideShapes Go.ChangeAt Go.RowKit
set_option linter.unusedVariables false

theorem OB.lower {w : World} {base base' : Nat} {e : TypeId} {v : Value} {l : List UInt8} (h : OB w base e v l) (hb : base' ≤ base) : OB w base' e v l := by
  refine ⟨h.1, ?_⟩
  rcases h.2 with h2 | ⟨g, cap, cur, hv, hg, r⟩
  · exact .inl h2
  · exact .inr ⟨g, cap, cur, hv, Nat.le_trans hb hg, r⟩
theorem DatA.of_ob {w : World} {base : Nat} {v : Value} {l : List UInt8} (h : OB w base 5 v l) : DatA w (fun b => base ≤ b) v l :=
  ⟨h.rd, fun g e _ => (h.lt g e).1, fun g e _ => (h.lt g e).2, fun b off c e i hi => by
    subst e
    obtain ⟨g, hg, _⟩ := OB.some h (by omega)
    cases hg
    rw [Nat.zero_add]
    exact (h.cell rfl hi).2.1⟩
/-- A new empty row of bytes. -/
def Fresh (B0 : Nat) (y : Value) (W : World) : Prop := ∃ N, y = .slice (some ⟨N, 0, none⟩) 0 0 ∧ OB W B0 5 y []
theorem Fresh.keeps {B0 : Nat} {y : Value} {W W' : World} (h : Fresh B0 y W) (hk : Keeps W W') : Fresh B0 y W' := by
  obtain ⟨N, rfl, h⟩ := h; exact ⟨N, rfl, h.keeps hk⟩
/-- A copy of these bytes. -/
def DatOf (l : List UInt8) (B0 : Nat) (y : Value) (W : World) : Prop := ∃ p c, y = .slice p l.length c ∧ DatA W (fun b => B0 ≤ b) (.slice p l.length c) l
theorem DatOf.keeps {l : List UInt8} {B0 : Nat} {y : Value} {W W' : World} (h : DatOf l B0 y W) (hk : Keeps W W') : DatOf l B0 y W' := by
  obtain ⟨p, c, rfl, hd⟩ := h; exact ⟨p, c, rfl, hd.keeps hk⟩
/-- append onto a new empty row of bytes. -/
theorem fresh_append {w : World} {B0 : Nat} {ty : TypeId} {y x : Value} {l : List UInt8} (h : Fresh B0 y w) (hx : RdB w x l) (hl : l.length ≤ 140737488355328) (hB : B0 ≤ w.heap.size) :
    ∃ v' w', (Builtin.append_ #[29, 29] ty #[y, x]).run Try.prog w = .ok v' w' ∧ DatOf l B0 v' w' ∧ RegT.Grow w w' := by
  obtain ⟨N, rfl, ho⟩ := h
  obtain ⟨v', w', hr, ho', hg⟩ := run_append_fresh (P := Try.prog) (ty := ty) hel (base := B0) ho hx.src (by unfold maxLen; omega) (by omega) hB
  have hob : OB w' B0 5 v' l := ho'
  obtain ⟨p, c, rfl⟩ := hob.form
  exact ⟨_, w', hr, ⟨p, c, rfl, DatA.of_ob hob⟩, hg⟩

set_option maxRecDepth 100000 in
set_option maxHeartbeats 3200000 in
theorem copies_w (R : Foot) (sv : Value) (ss : List Ent) (w : World) (hr : EsR w R sv ss) (hn : ss.length ≤ 1000000) (hl : ∀ e ∈ ss, e.2.length ≤ 1000000) :
    Calls Try.prog 30 #[sv] w fun r w' => ∃ v, r = .returned v ∧ EsG w' (fun b => w.heap.size ≤ b) 53 v ss ∧ Below w.heap.size w w' := by
  obtain ⟨p0, c0, rfl⟩ : ∃ p c, sv = .slice p ss.length c := by obtain ⟨p, c, xs, h1, _⟩ := hr; exact ⟨p, c, h1⟩
  have Hr := Lib.hid (hr.mono (S' := fun b => b < w.heap.size) fun b hb hR => hb)
  have Hl := Lib.hid hl
  clear hr hl
  go_enter Try.func30, Try.ntmps30
  go_wp2
  go_loopw [3, 4] (fun v i wr => ∃ (k : Nat) (p : Option Addr) (n c : Nat), k ≤ ss.length ∧ i = .int .i64 (k : Int) ∧ v = .slice p n c ∧ Hid (EsG wr (fun b => w.heap.size ≤ b) 53 (.slice p n c) (ss.take k)) ∧ Hid (Below w.heap.size w wr)) (fun _ i _ => ss.length - (intOf i).toNat)
  case atStart => exact ⟨0, none, 0, 0, Nat.zero_le _, rfl, rfl, Lib.hid (.inl ⟨rfl, rfl⟩), Lib.hid (Below.refl _ _)⟩
  case round =>
    obtain ⟨k, pu, nu, cu, hk, rfl, rfl, HE, HB⟩ := hrel
    by_cases hlt : k < ss.length
    · obtain ⟨b, off, n, c, d, hsv, hnn, hrange, hda, htl⟩ := Hr.out.elem k hlt
      cases hsv
      have hcs : w.cell? ⟨b, off + k * 2, none⟩ = some (.int .u64 ((ss[k].1 : Nat) : Int)) ∧ w.cell? ⟨b, off + k * 2 + 1, none⟩ = some d := ⟨by simpa using hrange 0 _ rfl, by simpa using hrange 1 _ rfl⟩
      have hbw : b < w.heap.size := block_lt_of_cell hcs.1
      have Hda := Lib.hid hda
      have Htl := Lib.hid htl
      have Hes := Lib.hid (show ss.take (k + 1) = ss.take k ++ [(ss[k].1, ss[k].2)] by rw [List.take_succ_eq_append_getElem hlt])
      have hll := Hl.out ss[k] (List.getElem_mem _)
      have hlen : (ss.take k).length = k := by rw [List.length_take, Nat.min_eq_left hk]
      have Hlen := Lib.hid hlen
      generalize ss[k].1 = t at *
      generalize ss[k].2 = l at *
      obtain ⟨pd, cd, rfl⟩ : ∃ p c, d = .slice p l.length c := by obtain ⟨p, c, h1, _⟩ := hda.rd; exact ⟨p, c, h1⟩
      have hug : ∀ x, (Value.slice pu nu cu).ownBlock = some x → w.heap.size ≤ x ∧ x < wr.heap.size := fun x e => HE.out.foot x e
      have Hug := Lib.hid hug
      have hww : w.heap.size ≤ wr.heap.size := HB.out.size
      have hsame : ∀ (W : World), Touch (fun b => (Value.slice pu nu cu).ownBlock = some b ∨ wr.heap.size ≤ b) wr.drew W → SameOn (fun b => b < w.heap.size) w W := fun W hR x hx => by
        have hx : x < w.heap.size := hx
        rw [hR.block x (by show x < wr.heap.size; omega) (fun e => by
          rcases e with e | e
          · have := (hug x e).1; omega
          · omega)]
        exact HB.out.block x hx
      have HDat := Lib.hid (fun (W : World) (hR : Touch (fun b => (Value.slice pu nu cu).ownBlock = some b ∨ wr.heap.size ≤ b) wr.drew W) => (hda.frame (hsame W hR)).rd)
      have Hc0 := Lib.hid (fun (W : World) (hR : Touch (fun b => (Value.slice pu nu cu).ownBlock = some b ∨ wr.heap.size ≤ b) wr.drew W) => (World.cell?_of_block (w := w) (a := ⟨b, off + k * 2, none⟩) (hsame W hR b hbw)).trans hcs.1)
      have Hc1 := Lib.hid (fun (W : World) (hR : Touch (fun b => (Value.slice pu nu cu).ownBlock = some b ∨ wr.heap.size ≤ b) wr.drew W) => (World.cell?_of_block (w := w) (a := ⟨b, off + k * 2 + 1, none⟩) (hsame W hR b hbw)).trans hcs.2)
      clear hrange hda htl hlen hug hsame hcs
      go_wp2
      apply RegT.wp_region_T rfl 28 16 rfl (by kernel_rfl) (RegR (.slice pu nu cu) (fun b => w.heap.size ≤ b) wr.heap.size (ss.take k)) (RegR.refl _ _ _ _) (RegR.trans _ _ _ _)
      · iterate 3
          apply RegT.T_pure rfl rfl rfl
          · intro W hR; go_simp; rfl
          simp only [List.set_cons_succ, List.set_cons_zero, Nat.reduceAdd]
        apply RegT.T_pure (v := .pointer (some ⟨b, off + k * 2, none⟩)) rfl rfl rfl
        · intro W hR; clear hR; go_simp
        simp only [List.set_cons_succ, List.set_cons_zero, Nat.reduceAdd]
        apply RegT.T_pure (v := .pointer (some ⟨b, off + k * 2, none⟩)) rfl rfl rfl
        · intro W hR; clear hR; go_simp
        simp only [List.set_cons_succ, List.set_cons_zero, Nat.reduceAdd]
        apply RegT.T_pure (v := .int .u64 (t : Int)) rfl rfl rfl
        · intro W hR
          have hc := Hc0.out W hR.1
          clear hR
          go_simp
        simp only [List.set_cons_succ, List.set_cons_zero, Nat.reduceAdd]
        apply RegT.T_predC rfl rfl rfl 12 (Fresh wr.heap.size) (RegR.grow _ _ _ _) (fun y x z hR h => h.keeps hR.block)
        · intro W hR hf
          have hsz : wr.heap.size ≤ W.heap.size := hR.1.size
          clear hR hf
          go_simp
          exact RegT.OpOK_value ⟨⟨_, rfl, (OB.new W 5).lower hsz⟩, (Below.refl _ _).alloc (Nat.le_refl _) _⟩
        intro v6
        simp only [List.set_cons_succ, List.set_cons_zero, Nat.reduceAdd]
        iterate 2
          apply RegT.T_pure rfl rfl rfl
          · intro W hR; go_simp; rfl
          simp only [List.set_cons_succ, List.set_cons_zero, Nat.reduceAdd]
        apply RegT.T_pure (v := .pointer (some ⟨b, off + k * 2, none⟩)) rfl rfl rfl
        · intro W hR; clear hR; go_simp
        simp only [List.set_cons_succ, List.set_cons_zero, Nat.reduceAdd]
        apply RegT.T_pure (v := .pointer (some ⟨b, off + k * 2 + 1, none⟩)) rfl rfl rfl
        · intro W hR; clear hR; go_simp
        simp only [List.set_cons_succ, List.set_cons_zero, Nat.reduceAdd]
        apply RegT.T_pure (v := .slice pd l.length cd) rfl rfl rfl
        · intro W hR
          have hc := Hc1.out W hR.1
          clear hR
          go_simp
        simp only [List.set_cons_succ, List.set_cons_zero, Nat.reduceAdd]
        apply RegT.T_predC rfl rfl rfl 13 (DatOf l wr.heap.size) (RegR.grow _ _ _ _) (fun y x z hR h => h.keeps hR.block)
        · intro W hR hf
          have h6 : Fresh wr.heap.size v6 W := hf _ (.head _) (by kernel_rfl) (.inr rfl)
          obtain ⟨v', w', hr, hd, hg⟩ := fresh_append (ty := 29) h6 (HDat.out W hR.1) (by omega) hR.1.size
          exact append_ok (.tmp 17) (.tmp 22) rfl rfl rfl hr ⟨hd, hg⟩
        intro v12
        simp only [List.set_cons_succ, List.set_cons_zero, Nat.reduceAdd]
        apply RegT.T_predC rfl rfl rfl 14 (CopyOf t l wr.heap.size) (RegR.grow _ _ _ _) (fun y x z hR h => h.keeps hR.block)
        · intro W hR hf
          obtain ⟨p, c, rfl, hd⟩ : DatOf l wr.heap.size v12 W := hf _ (.head _) (by kernel_rfl) (.inr rfl)
          clear hR hf
          go_simp
          exact RegT.OpOK_value ⟨⟨p, c, rfl, hd⟩, Below.refl _ _⟩
        intro v13
        simp only [List.set_cons_succ, List.set_cons_zero, Nat.reduceAdd]
        apply RegT.T_predC rfl rfl rfl 15 (RowOf t l wr.heap.size) (RegR.grow _ _ _ _) (fun y x z hR h => h.keeps hR.block)
        · intro W hR hf
          obtain ⟨p, c, rfl, hd⟩ : CopyOf t l wr.heap.size v13 W := hf _ (.head _) (by kernel_rfl) (.inr rfl)
          clear hR hf
          go_simp
          exact RegT.OpOK_value ⟨⟨_, p, c, rfl, EntAt.new _ _ _, hd.keeps ((Keeps.refl W).alloc _)⟩, (Below.refl _ _).alloc (Nat.le_refl _) _⟩
        intro v14
        simp only [List.set_cons_succ, List.set_cons_zero, Nat.reduceAdd]
        apply RegT.T_write rfl rfl rfl none (fun y W => EsG W (fun b => w.heap.size ≤ b) 53 y (ss.take (k + 1))) (fun y x z hR h => h.keeps hR.block)
        · intro W hR hf
          obtain ⟨N, p, c, rfl, he, hd⟩ : RowOf t l wr.heap.size v14 W := hf _ (.head _) (by kernel_rfl) (.inr rfl)
          have hsz : wr.heap.size ≤ W.heap.size := hR.1.size
          obtain ⟨v', w', hr, ho', hg, _, hold⟩ := run_append_esg (P := Try.prog) (ty := 28) (c := 1) (S' := fun b => w.heap.size ≤ b) helE (hR.2 (HE.out.keeps (Keeps.refl wr).drew)) (EsC.cons Htl.out (hd.mono fun b _ hb => (⟨Nat.le_trans hww hb, fun e => by have hb2 : wr.heap.size ≤ b := hb; have := (Hug.out b e).2; omega⟩ : (w.heap.size ≤ b) ∧ (Value.slice pu nu cu).ownBlock ≠ some b)) .nil) (.inr ⟨⟨N, 0, none⟩, rfl, ent_cells he⟩)
            (by rw [Hlen.out]; unfold maxLen; simp; omega) (by rw [Hlen.out]; simp; omega) (fun b hb => hb) (Nat.le_trans hww hsz)
          refine append_ok (.tmp 11) (.tmp 25) rfl rfl rfl hr ⟨?_, ⟨Touch.of_grownBy hg fun b e => .inl e, fun _ => hold⟩⟩
          rw [Hes.out]; exact ho'
        intro v15
        simp only [List.set_cons_succ, List.set_cons_zero, Nat.reduceAdd]
        refine RegT.T_tail (fun W hR hf => ?_)
        have hy : EsG W (fun b => w.heap.size ≤ b) 53 v15 (ss.take (k + 1)) := hf _ (.head _) (.inl rfl)
        obtain ⟨p8, n8, c8, rfl⟩ : ∃ p n c, v15 = .slice p n c := by obtain ⟨p, c, e⟩ := hy.form; exact ⟨p, _, c, e⟩
        have Hy := Lib.hid hy
        have HB2 := Lib.hid (show Below w.heap.size w W from HB.out.trans (Touch.below (B := w.heap.size) ⟨hR.1.os, hR.1.tape, hR.1.output, hR.1.size, hR.1.block⟩ hww (fun x e => by
          rcases e with e | e
          · exact (Hug.out x e).1
          · omega)))
        clear hR hf hy
        simp only [List.drop_succ_cons, List.drop_zero]
        go_wp2
        go_roundw
        case rel => exact ⟨k + 1, p8, n8, c8, by omega, by go_num, rfl, Hy, HB2⟩
        case measure => simp [intOf]; omega
      · rfl
      · kernel_rfl
    · have hk2 : k = ss.length := by omega
      go_wp2
      go_ret
      have h1 := HE.out
      rw [hk2, List.take_length] at h1
      exact ⟨_, rfl, h1, HB.out⟩
end Go.Proofs.Yteellfgiejnigaa
