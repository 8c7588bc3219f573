/- RaftSafe: G51, G52. -/
import Derived.Test.YteellfgiejnigaaQtA00
import Derived.Test.YteellfgiejnigaaQtA16
import Derived.Test.YteellfgiejnigaaQtA29
import Derived.Test.YteellfgiejnigaaQtA27
import Derived.BigQuiet
import Derived.Deep.MidRow
import Derived.Deep.QuietTactic
namespace Go.Proofs.Yteellfgiejnigaa
open Go.ChangeShapes Go.WideShapes Go.ChangeAt Go.RowKit
set_option linter.unusedVariables false
def zN : Array Value := #[.int .u8 0, .int .u64 0, .int .u64 0, .int .u64 0, .int .u64 0, .int .u64 0, .bool false, .slice none 0 0, .slice none 0 0]
theorem lt_of_at {W : World} {B : Nat} {o : Obj} (h : W.heap[B]? = some o) : B < W.heap.size := (Array.getElem?_eq_some_iff.1 h).1
theorem wpList_load31 {ops : Array Oper} {rest : List Oper} {o : Oper} {a : Act} {w : World} {Q : Exit → Act → World → Prop} {B : Nat} {cs : Array Value} (hw : Region.wanted o (yielded ops a.tmps) = true) (x : Operand) (ho : o.op = .load 31 x)
 (hx : a.eval x = .pointer (some ⟨B, 0, none⟩)) (h : w.heap[B]? = some (.cells cs 31)) (hs : cs.size = 9) (k : wpList Try.prog ops Q rest (a.put o.dst (.agg cs)) w) : wpList Try.prog ops Q (o :: rest) a w := by
 unfold wpList
 rw [if_pos hw]
 exact .inl (wp_load_row 31 x ho B hx 31 cs (0, 0) _ h Try.underlying31 rfl (show _ = some cs.size by rw [hs]; kernel_rfl) k)
def FF (w : World) : Foot := fun x => w.heap.size + 1 + 1 < x
theorem FF.put {w W : World} {lv : Value} {es : List Ent} (h : EsG W (FF w) 53 lv es) (i : Nat) (y : Value) : EsG (W.setCell ⟨w.heap.size + 1 + 1, i, none⟩ y) (FF w) 53 lv es :=
 h.frame fun b hb => Below.heap_setCell _ _ _ _ (by have hb' : w.heap.size + 1 + 1 < b := hb; simp; omega)
theorem FF.sameCell (w W : World) (i : Nat) (y : Value) : SameOn (FF w) W (W.setCell ⟨w.heap.size + 1 + 1, i, none⟩ y) := fun b hb => Below.heap_setCell _ _ _ _ (by have hb' : w.heap.size + 1 + 1 < b := hb; simp; omega)
theorem FF.nil (w W : World) : EsG W (FF w) 53 (.slice none 0 0) [] := .inl ⟨rfl, rfl⟩
def ntc (x : Nt) (lv dv : Value) : Array Value := #[.int .u8 (x.kind : Int), .int .u64 (x.term : Int), .int .u64 (x.round : Int), .int .u64 (x.index : Int), .int .u64 (x.at_ : Int), .int .u64 (x.commit : Int), .bool x.yes, lv, dv]
def NoteC (W : World) (S : Foot) (x : Nt) (cx : Array Value) : Prop := ∃ lv dv, cx = ntc x lv dv ∧ NtA W S lv dv x
structure NC (w W : World) (cx cs : Array Value) : Prop where
 x : W.heap[w.heap.size]? = some (.cells cx 31)
 rz : W.heap[w.heap.size + 1]? = some (.cells zN 31)
 y : W.heap[w.heap.size + 1 + 1]? = some (.cells cs 31)
 below : Below w.heap.size w W
section
variable {w W W' : World} {cx cs : Array Value}
theorem NC.keep (h : NC w W cx cs) (hB : Below W.heap.size W W') : NC w W' cx cs :=
 ⟨(hB.block _ (lt_of_at h.x)).trans h.x, (hB.block _ (lt_of_at h.rz)).trans h.rz, (hB.block _ (lt_of_at h.y)).trans h.y, h.below.trans (hB.mono h.below.size)⟩
theorem NC.put (h : NC w W cx cs) (i : Nat) (v : Value) : NC w (W.setCell ⟨w.heap.size + 1 + 1, i, none⟩ v) cx (cs.setIfInBounds i v) := by
 have hg := Lib.grownBy_setCell W (w.heap.size + 1 + 1) i v
 refine ⟨(hg.block _ (lt_of_at h.x) (by simp; omega)).trans h.x, (hg.block _ (lt_of_at h.rz) (by simp)).trans h.rz, ?_, h.below.grown hg h.below.size (fun k e => by cases e; omega)⟩
 have hy := h.y
 simp only [World.setCell, Array.getElem?_modify, hy, if_true, Option.map_some]
 rfl
theorem NC.touch (h : NC w W cx cs) {S : Foot} (ht : Touch S W W') (hs : ∀ b, S b → w.heap.size + 1 + 1 < b) : NC w W' cx cs := by
 have hn : ∀ b, b ≤ w.heap.size + 1 + 1 → b < W.heap.size → W'.heap[b]? = W.heap[b]? := fun b hb hl => ht.block b hl fun e => by have := hs b e; omega
 exact ⟨(hn _ (by omega) (lt_of_at h.x)).trans h.x, (hn _ (by omega) (lt_of_at h.rz)).trans h.rz, (hn _ (Nat.le_refl _) (lt_of_at h.y)).trans h.y, h.below.trans (ht.below h.below.size fun b e => by have := hs b e; omega)⟩
theorem NC.xat (h : NC w W cx cs) (i : Nat) : W.cell? ⟨w.heap.size, i, none⟩ = cx[i]? := cell_of_row _ _ _ _ _ _ h.x
theorem NC.yat (h : NC w W cx cs) (i : Nat) : W.cell? ⟨w.heap.size + 1 + 1, i, none⟩ = cs[i]? := cell_of_row _ _ _ _ _ _ h.y
theorem NC.thaw (h : NC w W cx cs) (i : Nat) : W.frozen? ⟨w.heap.size + 1 + 1, i, none⟩ = false := by
 have hy := h.y
 simp [World.frozen?, hy]
theorem NC.end_ (h : NC w W cx cs) (ds : Array Value) : Below w.heap.size w (W.setRow (w.heap.size + 1) ds) ∧ (W.setRow (w.heap.size + 1) ds).heap[w.heap.size + 1]? = some (.cells ds 31) := by
 have h1 : Below w.heap.size W (W.setRow (w.heap.size + 1) ds) := ⟨rfl, rfl, rfl, by simp [World.setRow], fun k hk => setRow_other _ _ _ _ (by omega)⟩
 exact ⟨h.below.trans h1, setRow_heap _ _ _ _ _ _ h.rz⟩
end
theorem NC.start (w : World) (cx cs : Array Value) : NC w (((w.alloc (.cells cx 31)).alloc (.cells zN 31)).alloc (.cells cs 31)) cx cs := by
 have hB : Below w.heap.size w (((w.alloc (.cells cx 31)).alloc (.cells zN 31)).alloc (.cells cs 31)) := (((Below.refl _ _).alloc (Nat.le_refl _) _).alloc (by simp) _).alloc (by simp; omega) _
 refine ⟨?_, ?_, ?_, hB⟩
 · rw [Below.heap_alloc _ _ _ (by simp; omega), Below.heap_alloc _ _ _ (by simp)]; exact heap_alloc_new w _
 · rw [Below.heap_alloc _ _ _ (by simp)]
   have := heap_alloc_new (w.alloc (.cells cx 31)) (.cells zN 31)
   rwa [heap_alloc_size] at this
 · have := heap_alloc_new ((w.alloc (.cells cx 31)).alloc (.cells zN 31)) (.cells cs 31)
   rwa [heap_alloc_size, heap_alloc_size] at this
set_option maxRecDepth 100000 in
set_option maxHeartbeats 6400000 in
theorem ncopy_w (k t r i a c : Nat) (y : Bool) (L : List Ent) (D : List UInt8) (pl pd : Option Addr) (cl cd : Nat) (S : Foot) (w : World) (h : NtA w S (.slice pl L.length cl) (.slice pd D.length cd) ⟨k, t, r, i, a, c, y, L, D⟩) (hn : L.length ≤ 1000) (hl : ∀ e ∈ L, e.2.length ≤ 1000000) (hd : D.length ≤ 140737488351232) :
 Calls Try.prog 45 #[.agg #[.int .u8 (k : Int), .int .u64 (t : Int), .int .u64 (r : Int), .int .u64 (i : Int), .int .u64 (a : Int), .int .u64 (c : Int), .bool y, .slice pl L.length cl, .slice pd D.length cd]] w
  fun e w' => ∃ cy, e = .returned (.agg cy) ∧ NoteC w' (fun p => w.heap.size ≤ p) ⟨k, t, r, i, a, c, y, L, D⟩ cy ∧ Below w.heap.size w w' := by
 have H := zh (h.mono (S' := fun b => b < w.heap.size) fun b hb _ => hb)
 have Hl := zh hl
 have hf := And.intro h.kind (And.intro h.term (And.intro h.round (And.intro h.index (And.intro h.at_ h.commit))))
 have Hf := zh hf
 clear h hl hf
 have HS0 := zh (show NC w (((w.alloc (.cells #[.int .u8 (k : Int), .int .u64 (t : Int), .int .u64 (r : Int), .int .u64 (i : Int), .int .u64 (a : Int), .int .u64 (c : Int), .bool y, .slice pl L.length cl, .slice pd D.length cd] 31)).alloc (.cells #[.int .u8 0, .int .u64 0, .int .u64 0, .int .u64 0, .int .u64 0, .int .u64 0, .bool false, .slice none 0 0, .slice none 0 0] 31)).alloc (.cells #[.int .u8 (k : Int), .int .u64 (t : Int), .int .u64 (r : Int), .int .u64 (i : Int), .int .u64 (a : Int), .int .u64 (c : Int), .bool y, .slice none 0 0, .slice pd D.length cd] 31)) #[.int .u8 (k : Int), .int .u64 (t : Int), .int .u64 (r : Int), .int .u64 (i : Int), .int .u64 (a : Int), .int .u64 (c : Int), .bool y, .slice pl L.length cl, .slice pd D.length cd] #[.int .u8 (k : Int), .int .u64 (t : Int), .int .u64 (r : Int), .int .u64 (i : Int), .int .u64 (a : Int), .int .u64 (c : Int), .bool y, .slice none 0 0, .slice pd D.length cd] from NC.start w _ _)
 go_enter Try.func45, Try.ntmps45
 go_wp2
 generalize ((w.alloc (.cells #[.int .u8 (k : Int), .int .u64 (t : Int), .int .u64 (r : Int), .int .u64 (i : Int), .int .u64 (a : Int), .int .u64 (c : Int), .bool y, .slice pl L.length cl, .slice pd D.length cd] 31)).alloc (.cells #[.int .u8 0, .int .u64 0, .int .u64 0, .int .u64 0, .int .u64 0, .int .u64 0, .bool false, .slice none 0 0, .slice none 0 0] 31)).alloc (.cells #[.int .u8 (k : Int), .int .u64 (t : Int), .int .u64 (r : Int), .int .u64 (i : Int), .int .u64 (a : Int), .int .u64 (c : Int), .bool y, .slice none 0 0, .slice pd D.length cd] 31) = W0 at *
 go_loopw [4] (fun ix wr => ∃ (q : Nat) (pu : Option Addr) (nu cu : Nat), q ≤ L.length ∧ ix = .int .i64 (q : Int) ∧ Hid (NC w wr #[.int .u8 (k : Int), .int .u64 (t : Int), .int .u64 (r : Int), .int .u64 (i : Int), .int .u64 (a : Int), .int .u64 (c : Int), .bool y, .slice pl L.length cl, .slice pd D.length cd] #[.int .u8 (k : Int), .int .u64 (t : Int), .int .u64 (r : Int), .int .u64 (i : Int), .int .u64 (a : Int), .int .u64 (c : Int), .bool y, .slice pu nu cu, .slice pd D.length cd]) ∧ Hid (EsG wr (FF w) 53 (.slice pu nu cu) (L.take q))) (fun ix _ => L.length - (intOf ix).toNat)
 case atStart => exact ⟨0, none, 0, 0, Nat.zero_le _, rfl, HS0, zh (FF.nil _ _)⟩
 case round =>
  obtain ⟨q, pu, nu, cu, hq, rfl, HN, HG⟩ := hrel
  clear HS0
  have x7 : wr.cell? ⟨w.heap.size, 7, none⟩ = some (.slice pl L.length cl) := (HN.out.xat 7).trans rfl
  by_cases hlt : q < L.length
  · obtain ⟨b, off, n, c2, d, hsv, hnn, hrange, hda, htl⟩ := H.out.l.elem q hlt
    cases hsv
    have hcs : w.cell? ⟨b, off + q * 2, none⟩ = some (.int .u64 ((L[q].1 : Nat) : Int)) ∧ w.cell? ⟨b, off + q * 2 + 1, none⟩ = some d := ⟨by simpa using hrange 0 _ rfl, by simpa using hrange 1 _ rfl⟩
    have hbw : b < w.heap.size := block_lt_of_cell hcs.1
    have Htl := zh htl
    have Hes := zh (show L.take (q + 1) = L.take q ++ [(L[q].1, L[q].2)] by rw [List.take_succ_eq_append_getElem hlt])
    have hll := Hl.out L[q] (List.getElem_mem _)
    have Hlen := zh (show (L.take q).length = q by rw [List.length_take, Nat.min_eq_left hq])
    generalize L[q].1 = t0 at *
    generalize L[q].2 = l0 at *
    obtain ⟨pe, ce, rfl⟩ : ∃ p c, d = .slice p l0.length c := by obtain ⟨p, c, h1, _⟩ := hda.rd; exact ⟨p, c, h1⟩
    have Hug := zh (show ∀ x, (Value.slice pu nu cu).ownBlock = some x → FF w x ∧ x < wr.heap.size from fun x e => HG.out.foot x e)
    have hww : w.heap.size + 1 + 1 < wr.heap.size := lt_of_at HN.out.y
    have HNC := zh (fun (W : World) (hR : Touch (fun b => (Value.slice pu nu cu).ownBlock = some b ∨ wr.heap.size ≤ b) wr.drew W) => (HN.out.keep (Below.refl wr.heap.size wr).drew).touch hR (fun x e => by
     rcases e with e | e
     · exact (Hug.out x e).1
     · omega))
    have hsame : ∀ (W : World), Touch (fun b => (Value.slice pu nu cu).ownBlock = some b ∨ wr.heap.size ≤ b) wr.drew W → SameOn (fun b => b < w.heap.size) w W := fun W hR x hx => (HNC.out W hR).below.block x hx
    have HDat := zh (fun (W : World) (hR : Touch (fun b => (Value.slice pu nu cu).ownBlock = some b ∨ wr.heap.size ≤ b) wr.drew W) => (hda.frame (hsame W hR)).rd)
    have Hc0 := zh (fun (W : World) (hR : Touch (fun b => (Value.slice pu nu cu).ownBlock = some b ∨ wr.heap.size ≤ b) wr.drew W) => (World.cell?_of_block (w := w) (a := ⟨b, off + q * 2, none⟩) (hsame W hR b hbw)).trans hcs.1)
    have Hc1 := zh (fun (W : World) (hR : Touch (fun b => (Value.slice pu nu cu).ownBlock = some b ∨ wr.heap.size ≤ b) wr.drew W) => (World.cell?_of_block (w := w) (a := ⟨b, off + q * 2 + 1, none⟩) (hsame W hR b hbw)).trans hcs.2)
    have HY := zh (fun (W : World) (hR : Touch (fun b => (Value.slice pu nu cu).ownBlock = some b ∨ wr.heap.size ≤ b) wr.drew W) => (show W.cell? ⟨w.heap.size + 1 + 1, 7, none⟩ = some (.slice pu nu cu) from ((HNC.out W hR).yat 7).trans rfl))
    have HX7 := zh (fun (W : World) (hR : Touch (fun b => (Value.slice pu nu cu).ownBlock = some b ∨ wr.heap.size ≤ b) wr.drew W) => (show W.cell? ⟨w.heap.size, 7, none⟩ = some (.slice (some ⟨b, off, none⟩) L.length cl) from ((HNC.out W hR).xat 7).trans rfl))
    clear hrange hda htl hsame hcs
    go_wp2
    apply RegT.wp_region_T rfl 40 20 rfl (by kernel_rfl) (RegR (.slice pu nu cu) (FF w) wr.heap.size (L.take q)) (RegR.refl _ _ _ _) (RegR.trans _ _ _ _)
    · apply RegT.T_pure (v := .pointer (some ⟨w.heap.size + 1 + 1, 7, none⟩)) rfl rfl rfl
      · intro W hR; clear hR; go_simp
      simp only [List.set_cons_succ, List.set_cons_zero, Nat.reduceAdd]
      apply RegT.T_pure (v := .slice pu nu cu) rfl rfl rfl
      · intro W hR
        have hc := HY.out W hR.1
        clear hR
        go_simp
      simp only [List.set_cons_succ, List.set_cons_zero, Nat.reduceAdd]
      apply RegT.T_pure (v := .pointer (some ⟨w.heap.size, 7, none⟩)) rfl rfl rfl
      · intro W hR; clear hR; go_simp
      simp only [List.set_cons_succ, List.set_cons_zero, Nat.reduceAdd]
      apply RegT.T_pure (v := .slice (some ⟨b, off, none⟩) L.length cl) rfl rfl rfl
      · intro W hR
        have hc := HX7.out W hR.1
        clear hR
        go_simp
      simp only [List.set_cons_succ, List.set_cons_zero, Nat.reduceAdd]
      apply RegT.T_pure (v := .int .i64 (q : Int)) rfl rfl rfl
      iterate 2
       · intro W hR; clear hR; go_simp
       simp only [List.set_cons_succ, List.set_cons_zero, Nat.reduceAdd]
       apply RegT.T_pure (v := .pointer (some ⟨b, off + q * 2, none⟩)) rfl rfl rfl
      · intro W hR; clear hR; go_simp
      simp only [List.set_cons_succ, List.set_cons_zero, Nat.reduceAdd]
      apply RegT.T_pure (v := .int .u64 (t0 : Int)) rfl rfl rfl
      · intro W hR
        have hc := Hc0.out W hR.1
        clear hR
        go_simp
      simp only [List.set_cons_succ, List.set_cons_zero, Nat.reduceAdd]
      apply RegT.T_predC rfl rfl rfl 15 (Fresh wr.heap.size) (RegR.grow _ _ _ _) (fun y x z hR h => h.keeps hR.block)
      · intro W hR hf
        have hsz : wr.heap.size ≤ W.heap.size := hR.1.size
        clear hR hf
        go_simp
        exact RegT.OpOK_value ⟨⟨_, rfl, (OB.new W 5).lower hsz⟩, (Below.refl _ _).alloc (Nat.le_refl _) _⟩
      intro v8
      simp only [List.set_cons_succ, List.set_cons_zero, Nat.reduceAdd]
      apply RegT.T_pure (v := .pointer (some ⟨w.heap.size, 7, none⟩)) rfl rfl rfl
      · intro W hR; clear hR; go_simp
      simp only [List.set_cons_succ, List.set_cons_zero, Nat.reduceAdd]
      apply RegT.T_pure (v := .slice (some ⟨b, off, none⟩) L.length cl) rfl rfl rfl
      · intro W hR
        have hc := HX7.out W hR.1
        clear hR
        go_simp
      simp only [List.set_cons_succ, List.set_cons_zero, Nat.reduceAdd]
      apply RegT.T_pure (v := .int .i64 (q : Int)) rfl rfl rfl
      · intro W hR; clear hR; go_simp
      simp only [List.set_cons_succ, List.set_cons_zero, Nat.reduceAdd]
      apply RegT.T_pure (v := .pointer (some ⟨b, off + q * 2, none⟩)) rfl rfl rfl
      · intro W hR; clear hR; go_simp
      simp only [List.set_cons_succ, List.set_cons_zero, Nat.reduceAdd]
      apply RegT.T_pure (v := .pointer (some ⟨b, off + q * 2 + 1, none⟩)) rfl rfl rfl
      · intro W hR; clear hR; go_simp
      simp only [List.set_cons_succ, List.set_cons_zero, Nat.reduceAdd]
      apply RegT.T_pure (v := .slice pe l0.length ce) rfl rfl rfl
      · intro W hR
        have hc := Hc1.out W hR.1
        clear hR
        go_simp
      simp only [List.set_cons_succ, List.set_cons_zero, Nat.reduceAdd]
      apply RegT.T_predC rfl rfl rfl 16 (DatOf l0 wr.heap.size) (RegR.grow _ _ _ _) (fun y x z hR h => h.keeps hR.block)
      · intro W hR hf
        have h6 : Fresh wr.heap.size v8 W := hf _ (.head _) (by kernel_rfl) (.inr rfl)
        obtain ⟨v', w', hr, hd, hg⟩ := fresh_append (ty := 29) h6 (HDat.out W hR.1) (by omega) hR.1.size
        exact append_ok (.tmp 22) (.tmp 28) rfl rfl rfl hr ⟨hd, hg⟩
      intro v15
      simp only [List.set_cons_succ, List.set_cons_zero, Nat.reduceAdd]
      apply RegT.T_predC rfl rfl rfl 17 (CopyOf t0 l0 wr.heap.size) (RegR.grow _ _ _ _) (fun y x z hR h => h.keeps hR.block)
      · intro W hR hf
        obtain ⟨p, c, rfl, hd⟩ : DatOf l0 wr.heap.size v15 W := hf _ (.head _) (by kernel_rfl) (.inr rfl)
        clear hR hf
        go_simp
        exact RegT.OpOK_value ⟨⟨p, c, rfl, hd⟩, Below.refl _ _⟩
      intro v16
      simp only [List.set_cons_succ, List.set_cons_zero, Nat.reduceAdd]
      apply RegT.T_predC rfl rfl rfl 18 (RowOf t0 l0 wr.heap.size) (RegR.grow _ _ _ _) (fun y x z hR h => h.keeps hR.block)
      · intro W hR hf
        obtain ⟨p, c, rfl, hd⟩ : CopyOf t0 l0 wr.heap.size v16 W := hf _ (.head _) (by kernel_rfl) (.inr rfl)
        clear hR hf
        go_simp
        exact RegT.OpOK_value ⟨⟨_, p, c, rfl, EntAt.new _ _ _, hd.keeps ((Keeps.refl W).alloc _)⟩, (Below.refl _ _).alloc (Nat.le_refl _) _⟩
      intro v17
      simp only [List.set_cons_succ, List.set_cons_zero, Nat.reduceAdd]
      apply RegT.T_write rfl rfl rfl none (fun y W => EsG W (FF w) 53 y (L.take (q + 1))) (fun y x z hR h => h.keeps hR.block)
      · intro W hR hf
        obtain ⟨N, p, c, rfl, he, hd⟩ : RowOf t0 l0 wr.heap.size v17 W := hf _ (.head _) (by kernel_rfl) (.inr rfl)
        have hsz : wr.heap.size ≤ W.heap.size := hR.1.size
        obtain ⟨v', w', hr, ho', hg, _, hold⟩ := run_append_esg (P := Try.prog) (ty := 28) (c := 1) (S' := FF w) helE (hR.2 (HG.out.keeps (Keeps.refl wr).drew)) (EsC.cons Htl.out (hd.mono fun b _ hb => (⟨by have hb2 : wr.heap.size ≤ b := hb; show w.heap.size + 1 + 1 < b; omega, fun e => by have hb2 : wr.heap.size ≤ b := hb; have := (Hug.out b e).2; omega⟩ : (FF w b) ∧ (Value.slice pu nu cu).ownBlock ≠ some b)) .nil) (.inr ⟨⟨N, 0, none⟩, rfl, ent_cells he⟩)
         (by rw [Hlen.out]; unfold maxLen; simp; omega) (by rw [Hlen.out]; simp; omega) (fun b hb => hb) (by show w.heap.size + 1 + 1 < W.heap.size; omega)
        refine append_ok (.tmp 15) (.tmp 31) rfl rfl rfl hr ⟨?_, ⟨Touch.of_grownBy hg fun b e => .inl e, fun _ => hold⟩⟩
        rw [Hes.out]; exact ho'
      intro v18
      simp only [List.set_cons_succ, List.set_cons_zero, Nat.reduceAdd]
      apply RegT.T_pure (v := .pointer (some ⟨w.heap.size + 1 + 1, 7, none⟩)) rfl rfl rfl
      · intro W hR; clear hR; go_simp
      simp only [List.set_cons_succ, List.set_cons_zero, Nat.reduceAdd]
      refine RegT.T_tail (fun W hR hf => ?_)
      have hy : EsG W (FF w) 53 v18 (L.take (q + 1)) := hf _ (.head _) (.inl rfl)
      obtain ⟨p8, n8, c8, rfl⟩ : ∃ p n c, v18 = .slice p n c := by obtain ⟨p, c, e⟩ := hy.form; exact ⟨p, _, c, e⟩
      have Hy := zh hy
      have HW := zh (HNC.out W hR.1)
      have hcc := (HW.out.yat 7).trans (show _ = some (Value.slice pu nu cu) from rfl)
      have hff := HW.out.thaw 7
      clear hR hf hy HNC HDat Hc0 Hc1 HY HX7
      simp only [List.drop_succ_cons, List.drop_zero]
      go_wp2
      go_roundw
      case rel => exact ⟨q + 1, p8, n8, c8, by omega, by go_num, zh (HW.out.put 7 (.slice p8 n8 c8)), zh (FF.put Hy.out 7 _)⟩
      case measure => simp [intOf]; omega
    · rfl
    · kernel_rfl
  · have hq2 : q = L.length := by omega
    have h1 := HG.out
    rw [hq2, List.take_length] at h1
    have HG2 := zh h1
    have x8 : wr.cell? ⟨w.heap.size, 8, none⟩ = some (.slice pd D.length cd) := (HN.out.xat 8).trans rfl
    have x8' : (wr.alloc (.cells #[] 5)).cell? ⟨w.heap.size, 8, none⟩ = some (.slice pd D.length cd) := ((HN.out.keep ((Below.refl _ _).alloc (Nat.le_refl _) (.cells #[] 5))).xat 8).trans rfl
    have HO := zh (OB.new wr 5)
    have HDr := zh (show RdB (wr.alloc (.cells #[] 5)) (.slice pd D.length cd) D from H.out.d.rd.keeps (show Keeps w (wr.alloc (.cells #[] 5)) from (HN.out.below.alloc HN.out.below.size _).block))
    have HNa := zh (HN.out.keep ((Below.refl _ _).alloc (Nat.le_refl _) (.cells #[] 5)))
    have HGa := zh (HG2.out.keeps ((Keeps.refl wr).alloc (.cells #[] 5)))
    have hwz : w.heap.size + 1 + 1 < wr.heap.size := lt_of_at HN.out.y
    clear h1 HG
    go_wp2_with (first
     | (refine wpList_append_bytes rfl (.tmp 34) (.tmp 36) 29 rfl hel rfl HO.out rfl HDr.out (by simp; omega) (by simp) ?_; intro p9 n9 c9 W9 hn9 ho9 hg9
        have hB9 := below_own HO.out hg9 (by simp)
        have ht9 : Touch (fun b => wr.heap.size ≤ b) (wr.alloc (.cells #[] 5)) W9 := ⟨hB9.os, hB9.tape, hB9.output, hg9.size, fun x hx hn => hB9.block x (by omega)⟩
        have HN9 := zh (HNa.out.touch ht9 (fun x hx => by have hx' : wr.heap.size ≤ x := hx; omega))
        have HG9 := zh (HG2.out.keeps (show Keeps wr W9 from (((Below.refl wr.heap.size wr).alloc (Nat.le_refl _) (.cells #[] 5)).trans hB9).block))
        have HD9 := zh (show DatA W9 (FF w) (.slice p9 n9 c9) D from (DatA.of_ob (by have h := ho9; rw [List.nil_append] at h; exact h)).mono (fun x _ hx => by have hx' : wr.heap.size ≤ x := hx; show w.heap.size + 1 + 1 < x; omega))
        have hcc := (HN9.out.yat 8).trans (show _ = some (Value.slice pd D.length cd) from rfl)
        have hff := HN9.out.thaw 8
        have HNe := zh (show NC w (W9.setCell ⟨w.heap.size + 1 + 1, 8, none⟩ (.slice p9 n9 c9)) _ #[.int .u8 (k : Int), .int .u64 (t : Int), .int .u64 (r : Int), .int .u64 (i : Int), .int .u64 (a : Int), .int .u64 (c : Int), .bool y, .slice pu nu cu, .slice p9 n9 c9] from HN9.out.put 8 (.slice p9 n9 c9))
        clear hB9 ht9 hg9 hn9 ho9)
     | (refine wpList_load31 rfl (.tmp 3) rfl rfl HNe.out.y rfl ?_)
     | (refine wpList_store_rowTo rfl 31 (.tmp 2) (.tmp 39) rfl rfl _ #[.int .u8 (k : Int), .int .u64 (t : Int), .int .u64 (r : Int), .int .u64 (i : Int), .int .u64 (a : Int), .int .u64 (c : Int), .bool y, .slice pu nu cu, .slice p9 n9 c9] rfl rfl 31 zN HNe.out.rz (show _ = some 9 by kernel_rfl) rfl (by simp [Value.oneCell']) ?_))
    obtain ⟨hend, hres⟩ := HNe.out.end_ #[.int .u8 (k : Int), .int .u64 (t : Int), .int .u64 (r : Int), .int .u64 (i : Int), .int .u64 (a : Int), .int .u64 (c : Int), .bool y, .slice pu nu cu, .slice p9 n9 c9]
    refine bodyPost_ret (v := .agg #[.int .u8 (k : Int), .int .u64 (t : Int), .int .u64 (r : Int), .int .u64 (i : Int), .int .u64 (a : Int), .int .u64 (c : Int), .bool y, .slice pu nu cu, .slice p9 n9 c9]) (results_cell_row rfl _ _ (w.heap.size + 1) 31 _ _ _ rfl hres Try.underlying31 rfl (show _ = some 9 by kernel_rfl)) rfl ?_
    have hN : NtA W9 (FF w) (.slice pu nu cu) (.slice p9 n9 c9) ⟨k, t, r, i, a, c, y, L, D⟩ := ⟨HG9.out.rd, HD9.out, Hf.out.1, Hf.out.2.1, Hf.out.2.2.1, Hf.out.2.2.2.1, Hf.out.2.2.2.2.1, Hf.out.2.2.2.2.2⟩
    have hN1 := (hN.frame (FF.sameCell w W9 8 (.slice p9 n9 c9))).frame (w' := (W9.setCell ⟨w.heap.size + 1 + 1, 8, none⟩ (.slice p9 n9 c9)).setRow (w.heap.size + 1) #[.int .u8 (k : Int), .int .u64 (t : Int), .int .u64 (r : Int), .int .u64 (i : Int), .int .u64 (a : Int), .int .u64 (c : Int), .bool y, .slice pu nu cu, .slice p9 n9 c9]) (fun b hb => setRow_other _ _ _ _ (by have hb' : w.heap.size + 1 + 1 < b := hb; omega))
    exact ⟨_, rfl, ⟨.slice pu nu cu, .slice p9 n9 c9, rfl, hN1.mono fun x _ hx => by have hx' : w.heap.size + 1 + 1 < x := hx; show w.heap.size ≤ x; omega⟩, hend⟩
section
variable {own own' own0 : Own} {w w' w0 : World} {a i N : Nat} {p g : Nat → Nat} {x : RS.W} {v : Wv} {L : Nat → Prop}
theorem RoG.lab {α : Type} {R : Rep α} {e : TypeId} {u : Value} {xs : List α} {l : Nat} (h : RoG R w (fun b => own b = l) e u xs) (m : Mv L own w own' w') (hl : ¬ L l) : RoG R w' (fun b => own' b = l) e u xs :=
 (footed_rog R e u xs).move h fun b hb e => ⟨(m.lab b hb).trans e, m.same hb (by rw [e]; exact hl)⟩
theorem footed_esg (e : TypeId) (u : Value) (xs : List Ent) : Footed (fun w S => EsG w S e u xs) := ⟨fun h => h.mono, fun h => h.frame⟩
theorem EsG.lab {e : TypeId} {u : Value} {xs : List Ent} {l : Nat} (h : EsG w (fun b => own b = l) e u xs) (m : Mv L own w own' w') (hl : ¬ L l) : EsG w' (fun b => own' b = l) e u xs :=
 (footed_esg e u xs).move h fun b hb e => ⟨(m.lab b hb).trans e, m.same hb (by rw [e]; exact hl)⟩
theorem OvAt.lab {ov : Ov} {o : RS.Ou} {l : Nat} (h : OvAt w (fun b => own b = l) ov o) (m : Mv L own w own' w') (hl : ¬ L l) : OvAt w' (fun b => own' b = l) ov o :=
 (footed_ov ov o).move h fun b hb e => ⟨(m.lab b hb).trans e, m.same hb (by rw [e]; exact hl)⟩
theorem LdAt.same {lp : Nat} {l : Nat → Option Nat} (h : LdAt w lp l) (he : w'.heap[lp]? = w.heap[lp]?) : LdAt w' lp l := by
 obtain ⟨D, ⟨es, clock, h1, h2⟩, h3⟩ := h
 exact ⟨D, ⟨es, clock, he.trans h1, h2⟩, h3⟩
theorem LdAt.lt {lp : Nat} {l : Nat → Option Nat} (h : LdAt w lp l) : lp < w.heap.size := by
 obtain ⟨D, ⟨es, clock, h1, h2⟩, h3⟩ := h
 exact (Array.getElem?_eq_some_iff.1 h1).1
theorem WdAt.lt (h : WdAt own w a p g x v) : a < w.heap.size := (Array.getElem?_eq_some_iff.1 h.row).1
theorem WdAt.cell (h : WdAt own w a p g x v) (k : Nat) : w.cell? ⟨a, k, none⟩ = v.cells[k]? := cell_of_row _ _ _ _ _ _ h.row
theorem WdAt.frozen (h : WdAt own w a p g x v) (k : Nat) : w.frozen? ⟨a, k, none⟩ = false := row_frozen k h.row
theorem WdAt.mv (h : WdAt own w a p g x v) (m : Mv L own w own' w') (hL : ∀ l, L l → 7 ≤ l ∧ (l < 10 ∨ 15 < l)) : WdAt own' w' a p g x v := by
 have hn : ∀ l, (l < 7 ∨ 10 ≤ l ∧ l ≤ 15) → ¬ L l := fun l hl e => by have := hL l e; omega
 have h7 := h.n7
 exact ⟨h.n7, fun i hi => (h.nd i hi).mv m (hn i (by omega)), (m.same h.lt (by rw [h.oa]; exact hn 10 (by omega))).trans h.row, (m.lab a h.lt).trans h.oa, h.r.lab m (hn 11 (by omega)), h.u.lab m (hn 12 (by omega)), h.m.lab m (hn 13 (by omega)), h.c.lab m (hn 14 (by omega)),
  h.l.same (m.same h.l.lt (by rw [h.ol]; exact hn 15 (by omega))), (m.lab _ h.l.lt).trans h.ol, h.Tx, h.Nx⟩
theorem WdAt.mails (h : WdAt own w a p g x v) (m : Mv (fun l => l = 13) own w own' w') {mp : Option Addr} {mn mc : Nat} {ms : List RS.Mail} (hm : RoG mailR w' (fun b => own' b = 13) 151 (.slice mp mn mc) ms) :
 WdAt own' (w'.setCell ⟨a, 5, none⟩ (.slice mp mn mc)) a p g { x with mails := ms } { v with mp := mp, mn := mn, mc := mc } ∧ Mv (fun l => l = 10 ∨ l = 13) own w own' (w'.setCell ⟨a, 5, none⟩ (.slice mp mn mc)) := by
 have h7 := h.n7
 have hrow : w'.heap[a]? = some (.cells v.cells 147) := (m.same h.lt (by rw [h.oa]; decide)).trans h.row
 have hoa : own' a = 10 := (m.lab a h.lt).trans h.oa
 have m2 : Mv (fun l => l = 10) own' w' own' (w'.setCell ⟨a, 5, none⟩ (.slice mp mn mc)) := Mv.set (a := ⟨a, 5, none⟩) hoa _
 have m3 : Mv (fun l => l = 10 ∨ l = 13) own w own' (w'.setCell ⟨a, 5, none⟩ (.slice mp mn mc)) := (m.mono fun l e => .inr e).trans (m2.mono fun l e => .inl e)
 have hn : ∀ l, l ≠ 10 → l ≠ 13 → ¬ (l = 10 ∨ l = 13) := fun l h1 h2 e => by omega
 exact ⟨⟨h.n7, fun i hi => (h.nd i hi).mv m3 (hn i (by have hi2 : i < x.n := hi; omega) (by have hi2 : i < x.n := hi; omega)), heap_setCell_same hrow _, hoa, h.r.lab m3 (by decide), h.u.lab m3 (by decide), hm.lab m2 (by decide), h.c.lab m3 (by decide), h.l.same (m3.same h.l.lt (by rw [h.ol]; decide)), (m3.lab _ h.l.lt).trans h.ol, h.Tx, h.Nx⟩, m3⟩
theorem load_mid {o : Oper} {e : Operand → Value} {W : World} {b off : Nat} {cs : List Value} {d : TypeDesc} (ty : TypeId) (y : Operand) (ho : o.op = .load ty y) (hx : e y = .pointer (some ⟨b, off, none⟩)) (h : W.rangeAt b off cs)
 (hu : Try.prog.underlying ty = some d) (hd : d.isRow = true) (hi : (Try.prog.info? ty).map (·.size) = some cs.length) : (execOp e o).run Try.prog W = .ok (.value (.agg cs.toArray)) W := by
 have hl := run_loadVar_mid (P := Try.prog) W b off ty cs d h hu hd hi
 unfold execOp
 simp only [ho, hx, Instr.loadAt, Instr.sureAddr, Sem.run_bind, Sem.run_pure, Result.andThen_ok, hl]
def NtU (nt : RS.Nt) (B0 : Nat) (y : Value) (W : World) : Prop := ∃ lp ln lc dp dn dc, y = .agg #[.int .u8 (nt.kind : Int), .int .u64 (nt.term : Int), .int .u64 (nt.round : Int), .int .u64 (nt.index : Int), .int .u64 (nt.at_ : Int), .int .u64 (nt.commit : Int), .bool nt.yes, .slice lp ln lc, .slice dp dn dc] ∧ EsR W (fun b => B0 ≤ b) (.slice lp ln lc) nt.list ∧ DatA W (fun b => B0 ≤ b) (.slice dp dn dc) []
theorem NtU.keeps {nt : RS.Nt} {B0 : Nat} {y : Value} {W W' : World} (h : NtU nt B0 y W) (hk : Keeps W W') : NtU nt B0 y W' := by
 obtain ⟨lp, ln, lc, dp, dn, dc, e, h1, h2⟩ := h; exact ⟨lp, ln, lc, dp, dn, dc, e, h1.keeps hk, h2.keeps hk⟩
def MailU (m : RS.Mail) (B0 : Nat) (y : Value) (W : World) : Prop := ∃ lp ln lc dp dn dc, y = .agg #[.int .i64 (m.from_ : Int), .int .i64 (m.to : Int), .int .u8 (m.x.kind : Int), .int .u64 (m.x.term : Int), .int .u64 (m.x.round : Int), .int .u64 (m.x.index : Int), .int .u64 (m.x.at_ : Int), .int .u64 (m.x.commit : Int), .bool m.x.yes, .slice lp ln lc, .slice dp dn dc, .int .i64 0] ∧ EsR W (fun b => B0 ≤ b) (.slice lp ln lc) m.x.list ∧ DatA W (fun b => B0 ≤ b) (.slice dp dn dc) []
theorem MailU.keeps {m : RS.Mail} {B0 : Nat} {y : Value} {W W' : World} (h : MailU m B0 y W) (hk : Keeps W W') : MailU m B0 y W' := by
 obtain ⟨lp, ln, lc, dp, dn, dc, e, h1, h2⟩ := h; exact ⟨lp, ln, lc, dp, dn, dc, e, h1.keeps hk, h2.keeps hk⟩
def RowM (m : RS.Mail) (B0 : Nat) (y : Value) (W : World) : Prop := ∃ N cs, y = .slice (some ⟨N, 0, none⟩) 1 1 ∧ W.heap[N]? = some (.cells cs.toArray 151) ∧ mailR.rel W (fun b => B0 ≤ b) m cs
theorem RowM.keeps {m : RS.Mail} {B0 : Nat} {y : Value} {W W' : World} (h : RowM m B0 y W) (hk : Keeps W W') : RowM m B0 y W' := by
 obtain ⟨N, cs, h1, h2, h3⟩ := h
 exact ⟨N, cs, h1, (hk N (Array.getElem?_eq_some_iff.1 h2).1).trans h2, mailR.keeps h3 hk⟩
abbrev RM (own : Own) (wr : World) (v : Wv) (ms : List RS.Mail) : World → World → Prop := RegG mailR 151 (.slice v.mp v.mn v.mc) (fun b => own b = 13 ∧ b < wr.heap.size) wr.heap.size ms
theorem RM.same {wr W : World} {ms : List RS.Mail} (h : RoG mailR wr (fun b => own b = 13) 151 (.slice v.mp v.mn v.mc) ms) (hR : RM own wr v ms wr.drew W) {b : Nat} (hb : b < wr.heap.size) (hn : own b ≠ 13) : W.heap[b]? = wr.heap[b]? :=
 hR.1.block b hb fun e => e.elim (fun e => hn (h.foot b e).1) (fun e => by have e : wr.heap.size ≤ b := e; omega)
theorem RM.mv {wr W : World} {ms : List RS.Mail} (h : RoG mailR wr (fun b => own b = 13) 151 (.slice v.mp v.mn v.mc) ms) (hR : RM own wr v ms wr.drew W) : Mv (fun l => l = 13) own wr (ext own wr.heap.size 13) W :=
 ⟨⟨hR.1.os, hR.1.tape, hR.1.output, hR.1.size, fun b hb hn => RM.same h hR hb hn⟩, fun b hb => ext_lt hb⟩
theorem mail_append {wr W : World} {ms : List RS.Mail} {m : RS.Mail} (h : RoG mailR wr (fun b => own b = 13) 151 (.slice v.mp v.mn v.mc) ms) (hl : ms.length ≤ 10000) (hR : RM own wr v ms wr.drew W) {N : Nat} {cs : List Value} (hN : W.heap[N]? = some (.cells cs.toArray 151)) (hrel : mailR.rel W (fun b => wr.heap.size ≤ b) m cs) :
 ∃ v' w', (Builtin.append_ #[145, 145] 145 #[.slice v.mp v.mn v.mc, .slice (some ⟨N, 0, none⟩) 1 1]).run Try.prog W = .ok v' w' ∧ RoG mailR w' (fun b => ext own wr.heap.size 13 b = 13) 151 v' (ms ++ [m]) ∧ RM own wr v ms W w' := by
 have h0 := h.mono (S' := fun b => own b = 13 ∧ b < wr.heap.size) fun b hb e => ⟨e, hb⟩
 have hsz : wr.heap.size ≤ W.heap.size := hR.1.size
 obtain ⟨v', w', hr, ho', hg, hnew, hold⟩ := run_append_rog (R := mailR) (P := Try.prog) (t := 145) (ty := 145) (c := 1) (S' := fun b => ext own wr.heap.size 13 b = 13) helM (hR.2 (h0.keeps (Keeps.refl wr).drew))
  (RoC.cons (mailR.mono hrel fun b _ hb => ⟨ext_ge hb, fun e => by have := (h.foot b e).2; have hb : wr.heap.size ≤ b := hb; omega⟩) .nil) (.inr ⟨⟨N, 0, none⟩, rfl, fun j u hu => row_cells hN j u (by simpa using hu)⟩)
  (by unfold maxLen; simp; omega) (by simp; omega) (fun b hb => (ext_lt hb.2).trans hb.1) (ext_ge hsz)
 exact ⟨v', w', hr, ho', Touch.of_grownBy hg fun b e => .inl e, fun _ => hold⟩
structure SnC (own0 : Own) (w0 : World) (own : Own) (w : World) (a : Nat) (p g : Nat → Nat) (x : RS.W) (v : Wv) (ov : Ov) (o : RS.Ou) (N : Nat) : Prop where
 wd : WdAt own w a p g x v
 b : Bx own w N (Ov.cells ov) 100
 ov : OvAt w (fun b => own b = 7) ov o
 m : Mv (fun l => l = 10 ∨ l = 13) own0 w0 own w
 k : ∀ k, k ≠ 5 → w.cell? ⟨a, k, none⟩ = w0.cell? ⟨a, k, none⟩
variable {ov : Ov} {o : RS.Ou}
theorem SnC.drewN (h : SnC own0 w0 own w a p g x v ov o N) (n : Nat) : SnC own0 w0 own (w.drewN n) a p g x v ov o N :=
 ⟨h.wd.mv (L := fun _ => False) (Mv.drewN own w n) fun l e => e.elim, h.b.mv (L := fun _ => False) (Mv.drewN own w n) id, h.ov.lab (L := fun _ => False) (Mv.drewN own w n) id, h.m.trans (Mv.drewN own w n), h.k⟩
theorem SnC.mails {mp : Option Addr} {mn mc : Nat} {ms : List RS.Mail} (h : SnC own0 w0 own w a p g x v ov o N) (m : Mv (fun l => l = 13) own w own' w') (hm : RoG mailR w' (fun b => own' b = 13) 151 (.slice mp mn mc) ms) :
 SnC own0 w0 own' (w'.setCell ⟨a, 5, none⟩ (.slice mp mn mc)) a p g { x with mails := ms } { v with mp := mp, mn := mn, mc := mc } ov o N := by
 obtain ⟨h1, m3⟩ := h.wd.mails m hm
 exact ⟨h1, h.b.mv m3 (by decide), h.ov.lab m3 (by decide), h.m.trans m3, fun k hk => (World.cell?_setCell_other w' ⟨a, 5, none⟩ ⟨a, k, none⟩ _ (fun e => hk (by cases e; rfl))).trans ((World.cell?_of_block (a := ⟨a, k, none⟩) (m.same h.wd.lt (by rw [h.wd.oa]; decide))).trans (h.k k hk))⟩
end
end Go.Proofs.Yteellfgiejnigaa
