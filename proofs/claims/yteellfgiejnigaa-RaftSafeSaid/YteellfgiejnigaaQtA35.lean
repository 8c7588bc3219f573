/- RaftSafe: G55. -/
import Derived.Test.YteellfgiejnigaaQtA00
import Derived.Test.YteellfgiejnigaaQtA34
namespace Go.Proofs.Yteellfgiejnigaa
open Go.ChangeShapes Go.WideShapes Go.ChangeAt Go.RowKit
set_option linter.unusedVariables false
section
variable {own own' own0 : Own} {w w' w0 : World} {a i N : Nat} {p g : Nat → Nat} {x : RS.W} {v : Wv} {L : Nat → Prop}
theorem wpList_append_run {P : Program} {ops : Array Oper} {rest : List Oper} {o : Oper} {a : Act} {w w' : World} {Q : Exit → Act → World → Prop} (hgd : o.guard = none) (s y : Operand) (t : TypeId) (ho : o.op = .call { callee := .builtin .append, args := #[s, y], argTypes := #[t, t] }) {u z u' : Value}
 (hs : a.eval s = u) (hy : a.eval y = z) (hr : (Builtin.append_ #[t, t] o.type #[u, z]).run P w = .ok u' w') (k : wpList P ops Q rest (a.put o.dst u') w') : wpList P ops Q (o :: rest) a w :=
 wpList_plain hgd fun K hK => RegT.OpOK_wp (append_ok (post := fun y W => y = u' ∧ W = w') s y ho hs hy hr ⟨rfl, rfl⟩) fun _ _ ⟨e1, e2⟩ => by subst e1; subst e2; exact hK _ _ k
theorem wpList_load151 {ops : Array Oper} {rest : List Oper} {o : Oper} {a : Act} {w : World} {Q : Exit → Act → World → Prop} {B : Nat} {cs : Array Value} {t : TypeId} (hw : Region.wanted o (yielded ops a.tmps) = true) (x : Operand) (ho : o.op = .load 151 x)
 (hx : a.eval x = .pointer (some ⟨B, 0, none⟩)) (h : w.heap[B]? = some (.cells cs t)) (hs : cs.size = 12) (k : wpList Try.prog ops Q rest (a.put o.dst (.agg cs)) w) : wpList Try.prog ops Q (o :: rest) a w := by
 unfold wpList
 rw [if_pos hw]
 exact .inl (wp_load_row 151 x ho B hx t cs (0, 0) _ h Try.underlying151 rfl (show _ = some cs.size by rw [hs]; kernel_rfl) k)
set_option maxHeartbeats 1000000 in
theorem mails_less {w2 : World} {own2 : Own} {S : Foot} {mp : Option Addr} {mn mc : Nat} {ms : List RS.Mail} (h : RoG mailR w2 S 151 (.slice mp mn mc) ms) (hS : ∀ b, b < w2.heap.size → S b → own2 b = 13) (hn : ∀ b, w2.heap.size ≤ b → own2 b = 13) (k : Nat) (hk : k < ms.length) (h6 : ms.length ≤ 600) :
 ∃ u1 w4, (Builtin.append_ #[145, 145] 145 #[.slice (some ⟨w2.heap.size, 0, none⟩) 0 0, .slice mp k mc]).run Try.prog (w2.alloc (.cells #[] 151)) = .ok u1 w4 ∧
  ∃ u2 w5, (Builtin.append_ #[145, 145] 145 #[u1, .slice (if mc = k + 1 then mp else mp.map (·.add ((k + 1) * 12))) (mn - (k + 1)) (mc - (k + 1))]).run Try.prog w4 = .ok u2 w5 ∧ RoG mailR w5 (fun b => own2 b = 13) 151 u2 (ms.eraseIdx k) ∧ Below w2.heap.size w2 w4 ∧ Below w2.heap.size w2 w5 := by
 obtain ⟨q, c, xs, e, hc1, hc2, hc3, hC, hcells⟩ := h.rd
 obtain ⟨b, off, rfl, hb, hlt, hcell⟩ := hcells (by intro e; rw [e] at hk; simp at hk)
 cases e
 have hz := heap_alloc_new w2 (.cells #[] 151)
 have hC0 := hC.mono (S' := fun b => S b ∧ b < w2.heap.size) fun b hb e => ⟨e, hb⟩
 have hs3 : SameOn (fun b => S b ∧ b < w2.heap.size) w2 (w2.alloc (.cells #[] 151)) := fun b hb => Below.heap_alloc _ _ _ hb.2
 have hC3 := hC0.frame hs3
 have hown : RoG mailR (w2.alloc (.cells #[] 151)) (fun b => own2 b = 13) 151 (.slice (some ⟨w2.heap.size, 0, none⟩) 0 0) [] :=
  .inr ⟨w2.heap.size, 0, #[], rfl, hn _ (Nat.le_refl _), hz, Nat.le_refl _, by decide, by simp, .nil⟩
 have hl1 : (ms.take k).length = k := by rw [List.length_take]; omega
 obtain ⟨u1, w4, hr1, ho1, hg1, hw1, _⟩ := run_append_rog (R := mailR) (P := Try.prog) (t := 145) (ty := 145) (c := mc) (S' := fun b => own2 b = 13) helM hown (p := some ⟨b, off, none⟩) (ys := xs.take (k * 12)) (fs := ms.take k)
  ((hC3.take k).mono fun b _ e => ⟨hS b e.2 e.1, fun e2 => by cases e2; exact absurd e.2 (Nat.lt_irrefl _)⟩)
  (.inr ⟨_, rfl, fun j u hu => by
    rw [Addr.add_mid, World.cell?_of_block (a := ⟨b, off + j, none⟩) (hs3 b ⟨hb, hlt⟩)]
    refine hcell j u ?_
    rw [List.getElem?_take] at hu
    split at hu
    · exact hu
    · cases hu⟩) (by simp [maxLen]; omega) (by simp; omega) (fun b h => h) (hn _ (by simp))
 rw [hl1] at hr1
 have hB4 : Below w2.heap.size w2 w4 := ((Below.refl w2.heap.size w2).alloc (Nat.le_refl _) (.cells #[] 151)).trans (below_grown hg1 w2.heap.size (by simp) (fun g e => by cases e; exact Nat.le_refl _))
 refine ⟨u1, w4, hr1, ?_⟩
 have hs4 : SameOn (fun b => S b ∧ b < w2.heap.size) w2 w4 := fun b hb => hB4.block b hb.2
 have hC4 := hC0.frame hs4
 have hl2 : (ms.drop (k + 1)).length = ms.length - (k + 1) := List.length_drop ..
 have hu1 : ∀ g, u1.ownBlock = some g → w2.heap.size ≤ g := fun g e => by
  rcases hw1 with h | h
  · rw [h] at e; cases e; exact Nat.le_refl _
  · rw [h] at e; cases e; simp
 obtain ⟨u2, w5, hr2, ho2, hg2, hw2, _⟩ := run_append_rog (R := mailR) (P := Try.prog) (t := 145) (ty := 145) (c := mc - (k + 1)) (S' := fun b => own2 b = 13) helM ho1 (p := if mc = k + 1 then some ⟨b, off, none⟩ else (some ⟨b, off, none⟩ : Option Addr).map (·.add ((k + 1) * 12))) (ys := xs.drop ((k + 1) * 12)) (fs := ms.drop (k + 1))
  ((hC4.drop (k + 1)).mono fun b _ e => ⟨hS b e.2 e.1, fun e2 => by have := hu1 b e2; have := e.2; omega⟩)
  (.inr (by
    have hxl := hC.len
    have hk12 : mailR.k = 12 := rfl
    rw [hk12] at hxl
    by_cases e : mc = k + 1
    · rw [if_pos e]
      refine ⟨_, rfl, fun j u hu => ?_⟩
      rw [List.getElem?_drop] at hu
      have := (List.getElem?_eq_some_iff.1 hu).1
      omega
    · rw [if_neg e]
      refine ⟨_, rfl, fun j u hu => ?_⟩
      rw [List.getElem?_drop] at hu
      show w4.cell? (((⟨b, off, none⟩ : Addr).add ((k + 1) * 12)).add j) = some u
      rw [Addr.add_mid, Addr.add_mid, Nat.add_assoc, World.cell?_of_block (a := ⟨b, off + ((k + 1) * 12 + j), none⟩) (hs4 b ⟨hb, hlt⟩)]
      exact hcell _ u hu)) (by simp [maxLen]; omega) (by simp; omega) (fun b h => h) (hn _ hB4.size)
 rw [hl2] at hr2
 refine ⟨u2, w5, hr2, ?_, hB4, hB4.trans (below_grown hg2 w2.heap.size hB4.size hu1)⟩
 rw [List.eraseIdx_eq_take_drop_succ]
 exact ho2
set_option maxRecDepth 100000 in
set_option maxHeartbeats 1000000 in
theorem take_w (own : Own) (a : Nat) (p g : Nat → Nat) (x : RS.W) (v : Wv) (w : World) (h : WdAt own w a p g x v) (k : Nat) (hk : k < x.mails.length) (h6 : x.mails.length ≤ 600) (m : RS.Mail) (hm : m = x.mails[k]) :
 Calls Try.prog 100 #[.pointer (some ⟨a, 0, none⟩), .int .i64 (k : Int)] w fun e w' => ∃ pl nl cl pd nd cd ag own' v', e = .returned (.agg #[.int .i64 (m.from_ : Int), .int .i64 (m.to : Int), .int .u8 (m.x.kind : Int), .int .u64 (m.x.term : Int), .int .u64 (m.x.round : Int), .int .u64 (m.x.index : Int), .int .u64 (m.x.at_ : Int), .int .u64 (m.x.commit : Int), .bool m.x.yes, .slice pl nl cl, .slice pd nd cd, .int .i64 ag]) ∧ WdAt own' w' a p g (x.with_ (x.mails.eraseIdx k)) v' ∧ EsR w' (fun b => own' b = 13) (.slice pl nl cl) m.x.list ∧ DatA w' (fun b => own' b = 13) (.slice pd nd cd) [] ∧ Mv (fun l => l = 10 ∨ l = 13) own w own' w' := by
 obtain ⟨eb, eo, ec, cs, hsv, heb, helt, hrange, ds, ag, rfl, lv, dv, rfl, hlv, hdv⟩ := h.m.rd.elem k hk
 rw [← hm] at hrange hlv
 obtain ⟨pl, cl, rfl⟩ := hlv.len_form
 obtain ⟨pd, cd, rfl, _⟩ := hdv.rd
 have e1 : v.mp = some ⟨eb, eo, none⟩ := by injection hsv
 have e2 : v.mn = x.mails.length := by injection hsv
 have e3 : v.mc = ec := by injection hsv
 obtain ⟨nl, hnl⟩ : ∃ n, n = m.x.list.length := ⟨_, rfl⟩
 obtain ⟨nd, hnd⟩ : ∃ n, n = ([] : List UInt8).length := ⟨_, rfl⟩
 rw [← hnl] at hrange hlv
 rw [← hnd] at hrange hdv
 have hcap : x.mails.length ≤ ec := by obtain ⟨q, c, xs, e, h1, _⟩ := h.m.rd; have h9 : v.mc = c := (by injection e); omega
 have HX1 := zh (Bx.new own w #[.int .i64 0, .int .i64 0, .int .u8 0, .int .u64 0, .int .u64 0, .int .u64 0, .int .u64 0, .int .u64 0, .bool false, .slice none 0 0, .slice none 0 0, .int .i64 0] 151)
 obtain ⟨w1, hw1⟩ : ∃ w1, w.alloc (.cells #[.int .i64 0, .int .i64 0, .int .u8 0, .int .u64 0, .int .u64 0, .int .u64 0, .int .u64 0, .int .u64 0, .bool false, .slice none 0 0, .slice none 0 0, .int .i64 0] 151) = w1 := ⟨_, rfl⟩
 have hB1 : Below w.heap.size w w1 := by rw [← hw1]; exact (Below.refl _ _).alloc (Nat.le_refl _) _
 have hsz1 : w1.heap.size = w.heap.size + 1 := by rw [← hw1]; simp
 rw [hw1] at HX1
 have ha5 : w1.cell? ⟨a, 5, none⟩ = some (.slice (some ⟨eb, eo, none⟩) x.mails.length ec) := (World.cell?_of_block (a := ⟨a, 5, none⟩) (hB1.block a h.lt)).trans ((h.cell 5).trans (by rw [← e1, ← e2, ← e3]; rfl))
 have y0 : w1.cell? ⟨eb, eo + k * 12, none⟩ = some (.int .i64 (m.from_ : Int)) := (World.cell?_of_block (a := ⟨eb, eo + k * 12 + 0, none⟩) (hB1.block eb helt)).trans (hrange 0 _ rfl)
 have y1 : w1.cell? ⟨eb, eo + k * 12 + 1, none⟩ = some (.int .i64 (m.to : Int)) := (World.cell?_of_block (a := ⟨eb, eo + k * 12 + 1, none⟩) (hB1.block eb helt)).trans (hrange 1 _ rfl)
 have y2 : w1.cell? ⟨eb, eo + k * 12 + 2, none⟩ = some (.int .u8 (m.x.kind : Int)) := (World.cell?_of_block (a := ⟨eb, eo + k * 12 + 2, none⟩) (hB1.block eb helt)).trans (hrange 2 _ rfl)
 have y3 : w1.cell? ⟨eb, eo + k * 12 + 3, none⟩ = some (.int .u64 (m.x.term : Int)) := (World.cell?_of_block (a := ⟨eb, eo + k * 12 + 3, none⟩) (hB1.block eb helt)).trans (hrange 3 _ rfl)
 have y4 : w1.cell? ⟨eb, eo + k * 12 + 4, none⟩ = some (.int .u64 (m.x.round : Int)) := (World.cell?_of_block (a := ⟨eb, eo + k * 12 + 4, none⟩) (hB1.block eb helt)).trans (hrange 4 _ rfl)
 have y5 : w1.cell? ⟨eb, eo + k * 12 + 5, none⟩ = some (.int .u64 (m.x.index : Int)) := (World.cell?_of_block (a := ⟨eb, eo + k * 12 + 5, none⟩) (hB1.block eb helt)).trans (hrange 5 _ rfl)
 have y6 : w1.cell? ⟨eb, eo + k * 12 + 6, none⟩ = some (.int .u64 (m.x.at_ : Int)) := (World.cell?_of_block (a := ⟨eb, eo + k * 12 + 6, none⟩) (hB1.block eb helt)).trans (hrange 6 _ rfl)
 have y7 : w1.cell? ⟨eb, eo + k * 12 + 7, none⟩ = some (.int .u64 (m.x.commit : Int)) := (World.cell?_of_block (a := ⟨eb, eo + k * 12 + 7, none⟩) (hB1.block eb helt)).trans (hrange 7 _ rfl)
 have y8 : w1.cell? ⟨eb, eo + k * 12 + 8, none⟩ = some (.bool m.x.yes) := (World.cell?_of_block (a := ⟨eb, eo + k * 12 + 8, none⟩) (hB1.block eb helt)).trans (hrange 8 _ rfl)
 have y9 : w1.cell? ⟨eb, eo + k * 12 + 9, none⟩ = some (.slice pl nl cl) := (World.cell?_of_block (a := ⟨eb, eo + k * 12 + 9, none⟩) (hB1.block eb helt)).trans (hrange 9 _ rfl)
 have y10 : w1.cell? ⟨eb, eo + k * 12 + 10, none⟩ = some (.slice pd nd cd) := (World.cell?_of_block (a := ⟨eb, eo + k * 12 + 10, none⟩) (hB1.block eb helt)).trans (hrange 10 _ rfl)
 have y11 : w1.cell? ⟨eb, eo + k * 12 + 11, none⟩ = some (.int .i64 ag) := (World.cell?_of_block (a := ⟨eb, eo + k * 12 + 11, none⟩) (hB1.block eb helt)).trans (hrange 11 _ rfl)
 have hk0 : (0 : Int) ≤ (k : Int) := by omega
 have hki : (k : Int) < (x.mails.length : Int) := by omega
 have HD := zh h
 have HW := zh hw1
 have HB1 := zh hB1
 have HE := zh (And.intro e1 (And.intro e2 e3))
 have HL := zh hlv
 have HDt := zh hdv
 have Hnl := zh hnl
 have Hhm := zh hm
 have hZ2 := heap_alloc_new w1 (.cells #[.int .i64 0, .int .i64 0, .int .u8 0, .int .u64 0, .int .u64 0, .int .u64 0, .int .u64 0, .int .u64 0, .bool false, .slice none 0 0, .slice none 0 0, .int .i64 0] 151)
 rw [hsz1] at hZ2
 have HZ2 := zh hZ2
 have Hsz1 := zh hsz1
 clear h hw1 hB1 hsv heb hrange hlv hdv e1 e2 e3 hnl hnd hm hZ2
 go_enter Try.func100, Try.ntmps100
 go_upto_region 1 with (fail)
 rw [HW.out]
 go_upto_region 2 with (refine wpList_store_rowTo rfl 151 (.tmp 5) (.tmp 13) rfl rfl _ #[.int .i64 (m.from_ : Int), .int .i64 (m.to : Int), .int .u8 (m.x.kind : Int), .int .u64 (m.x.term : Int), .int .u64 (m.x.round : Int), .int .u64 (m.x.index : Int), .int .u64 (m.x.at_ : Int), .int .u64 (m.x.commit : Int), .bool m.x.yes, .slice pl nl cl, .slice pd nd cd, .int .i64 ag] rfl rfl 151 _ HZ2.out (show _ = some 12 by kernel_rfl) rfl (by simp [Value.oneCell']) ?_)
 have m2 : Mv (fun _ => False) own w (ext own w.heap.size 9) ((w1.alloc (.cells #[.int .i64 0, .int .i64 0, .int .u8 0, .int .u64 0, .int .u64 0, .int .u64 0, .int .u64 0, .int .u64 0, .bool false, .slice none 0 0, .slice none 0 0, .int .i64 0] 151)).setRow (w.heap.size + 1) #[.int .i64 (m.from_ : Int), .int .i64 (m.to : Int), .int .u8 (m.x.kind : Int), .int .u64 (m.x.term : Int), .int .u64 (m.x.round : Int), .int .u64 (m.x.index : Int), .int .u64 (m.x.at_ : Int), .int .u64 (m.x.commit : Int), .bool m.x.yes, .slice pl nl cl, .slice pd nd cd, .int .i64 ag]) := (Mv.of_below (HB1.out.alloc HB1.out.size (.cells #[.int .i64 0, .int .i64 0, .int .u8 0, .int .u64 0, .int .u64 0, .int .u64 0, .int .u64 0, .int .u64 0, .bool false, .slice none 0 0, .slice none 0 0, .int .i64 0] 151)) 9).newRow (Nat.le_succ _) _
 have hrow1 : ((w1.alloc (.cells #[.int .i64 0, .int .i64 0, .int .u8 0, .int .u64 0, .int .u64 0, .int .u64 0, .int .u64 0, .int .u64 0, .bool false, .slice none 0 0, .slice none 0 0, .int .i64 0] 151)).setRow (w.heap.size + 1) #[.int .i64 (m.from_ : Int), .int .i64 (m.to : Int), .int .u8 (m.x.kind : Int), .int .u64 (m.x.term : Int), .int .u64 (m.x.round : Int), .int .u64 (m.x.index : Int), .int .u64 (m.x.at_ : Int), .int .u64 (m.x.commit : Int), .bool m.x.yes, .slice pl nl cl, .slice pd nd cd, .int .i64 ag]).heap[w.heap.size + 1]? = some (.cells #[.int .i64 (m.from_ : Int), .int .i64 (m.to : Int), .int .u8 (m.x.kind : Int), .int .u64 (m.x.term : Int), .int .u64 (m.x.round : Int), .int .u64 (m.x.index : Int), .int .u64 (m.x.at_ : Int), .int .u64 (m.x.commit : Int), .bool m.x.yes, .slice pl nl cl, .slice pd nd cd, .int .i64 ag] 151) := setRow_heap _ _ _ _ _ _ HZ2.out
 have hrow0 : ((w1.alloc (.cells #[.int .i64 0, .int .i64 0, .int .u8 0, .int .u64 0, .int .u64 0, .int .u64 0, .int .u64 0, .int .u64 0, .bool false, .slice none 0 0, .slice none 0 0, .int .i64 0] 151)).setRow (w.heap.size + 1) #[.int .i64 (m.from_ : Int), .int .i64 (m.to : Int), .int .u8 (m.x.kind : Int), .int .u64 (m.x.term : Int), .int .u64 (m.x.round : Int), .int .u64 (m.x.index : Int), .int .u64 (m.x.at_ : Int), .int .u64 (m.x.commit : Int), .bool m.x.yes, .slice pl nl cl, .slice pd nd cd, .int .i64 ag]).heap[w.heap.size]? = some (.cells #[.int .i64 0, .int .i64 0, .int .u8 0, .int .u64 0, .int .u64 0, .int .u64 0, .int .u64 0, .int .u64 0, .bool false, .slice none 0 0, .slice none 0 0, .int .i64 0] 151) := (setRow_other _ _ _ _ (by omega)).trans ((Below.heap_alloc _ _ _ (by rw [Hsz1.out]; omega)).trans HX1.out.row)
 have HX2 := zh (show Bx (ext own w.heap.size 9) ((w1.alloc (.cells #[.int .i64 0, .int .i64 0, .int .u8 0, .int .u64 0, .int .u64 0, .int .u64 0, .int .u64 0, .int .u64 0, .bool false, .slice none 0 0, .slice none 0 0, .int .i64 0] 151)).setRow (w.heap.size + 1) #[.int .i64 (m.from_ : Int), .int .i64 (m.to : Int), .int .u8 (m.x.kind : Int), .int .u64 (m.x.term : Int), .int .u64 (m.x.round : Int), .int .u64 (m.x.index : Int), .int .u64 (m.x.at_ : Int), .int .u64 (m.x.commit : Int), .bool m.x.yes, .slice pl nl cl, .slice pd nd cd, .int .i64 ag]) w.heap.size #[.int .i64 0, .int .i64 0, .int .u8 0, .int .u64 0, .int .u64 0, .int .u64 0, .int .u64 0, .int .u64 0, .bool false, .slice none 0 0, .slice none 0 0, .int .i64 0] 151 from ⟨hrow0, ext_ge (Nat.le_refl _)⟩)
 have HY2 := zh (show Bx (ext own w.heap.size 9) ((w1.alloc (.cells #[.int .i64 0, .int .i64 0, .int .u8 0, .int .u64 0, .int .u64 0, .int .u64 0, .int .u64 0, .int .u64 0, .bool false, .slice none 0 0, .slice none 0 0, .int .i64 0] 151)).setRow (w.heap.size + 1) #[.int .i64 (m.from_ : Int), .int .i64 (m.to : Int), .int .u8 (m.x.kind : Int), .int .u64 (m.x.term : Int), .int .u64 (m.x.round : Int), .int .u64 (m.x.index : Int), .int .u64 (m.x.at_ : Int), .int .u64 (m.x.commit : Int), .bool m.x.yes, .slice pl nl cl, .slice pd nd cd, .int .i64 ag]) (w.heap.size + 1) #[.int .i64 (m.from_ : Int), .int .i64 (m.to : Int), .int .u8 (m.x.kind : Int), .int .u64 (m.x.term : Int), .int .u64 (m.x.round : Int), .int .u64 (m.x.index : Int), .int .u64 (m.x.at_ : Int), .int .u64 (m.x.commit : Int), .bool m.x.yes, .slice pl nl cl, .slice pd nd cd, .int .i64 ag] 151 from ⟨hrow1, ext_ge (Nat.le_succ _)⟩)
 have HD2 := zh (HD.out.mv m2 fun l e => e.elim)
 have HL2 := zh ((footed_esr _ _).move (S' := fun b => ext own w.heap.size 9 b = 13) HL.out fun b hb e => ⟨(m2.lab b hb).trans e, m2.same hb id⟩)
 have HT2 := zh ((footed_dat _ _).move (S' := fun b => ext own w.heap.size 9 b = 13) HDt.out fun b hb e => ⟨(m2.lab b hb).trans e, m2.same hb id⟩)
 have HM2 := zh m2
 clear m2 hrow0 hrow1 ha5 HD HB1 HX1 HZ2 HL HDt HW y0 y1 y2 y3 y4 y5 y6 y7 y8 y9 y10 y11
 generalize (w1.alloc (.cells #[.int .i64 0, .int .i64 0, .int .u8 0, .int .u64 0, .int .u64 0, .int .u64 0, .int .u64 0, .int .u64 0, .bool false, .slice none 0 0, .slice none 0 0, .int .i64 0] 151)).setRow (w.heap.size + 1) #[.int .i64 (m.from_ : Int), .int .i64 (m.to : Int), .int .u8 (m.x.kind : Int), .int .u64 (m.x.term : Int), .int .u64 (m.x.round : Int), .int .u64 (m.x.index : Int), .int .u64 (m.x.at_ : Int), .int .u64 (m.x.commit : Int), .bool m.x.yes, .slice pl nl cl, .slice pd nd cd, .int .i64 ag] = w2 at *
 generalize ext own w.heap.size 9 = own1 at *
 have hmr : RoG mailR w2 (fun b => own1 b = 13) 151 (.slice (some ⟨eb, eo, none⟩) x.mails.length ec) x.mails := by have h1 := HD2.out.m; rw [HE.out.1, HE.out.2.1, HE.out.2.2] at h1; exact h1
 obtain ⟨u1, w4, hr1, u2, w5, hr2, hro, hB4, hB5⟩ := mails_less (own2 := ext own1 w2.heap.size 13) hmr (fun b hb e => (ext_lt hb).trans e) (fun b hb => ext_ge hb) k hk h6
 have hsl1 := fun W => run_slice_hi (P := Try.prog) 145 151 Try.underlying145 12 (by kernel_rfl) (some ⟨eb, eo, none⟩) x.mails.length ec k (by omega) W
 have hsl2 : ∀ W, (Instr.sliceAt 145 (.slice (some ⟨eb, eo, none⟩) x.mails.length ec) (some (.int .i64 ((k : Int) + 1))) none none).run Try.prog W = .ok (.slice (if ec = k + 1 then some ⟨eb, eo, none⟩ else (some ⟨eb, eo, none⟩ : Option Addr).map (·.add ((k + 1) * 12))) (x.mails.length - (k + 1)) (ec - (k + 1))) W := fun W => by
  have h1 := run_slice_lo (P := Try.prog) 145 151 Try.underlying145 12 (by kernel_rfl) (some ⟨eb, eo, none⟩) x.mails.length ec (k + 1) (by omega) W
  exact h1
 generalize (if ec = k + 1 then some ⟨eb, eo, none⟩ else (some ⟨eb, eo, none⟩ : Option Addr).map (·.add ((k + 1) * 12))) = qa at *
 generalize x.mails.length - (k + 1) = qn at *
 generalize ec - (k + 1) = qc at *
 obtain ⟨p8, c8, hu2⟩ := hro.form
 generalize (x.mails.eraseIdx k).length = n8 at *
 subst hu2
 have ha5 : w2.cell? ⟨a, 5, none⟩ = some (.slice (some ⟨eb, eo, none⟩) x.mails.length ec) := (HD2.out.cell 5).trans (by rw [← HE.out.1, ← HE.out.2.1, ← HE.out.2.2]; rfl)
 have ha5' : (w2.alloc (.cells #[] 151)).cell? ⟨a, 5, none⟩ = some (.slice (some ⟨eb, eo, none⟩) x.mails.length ec) := (World.cell?_of_block (a := ⟨a, 5, none⟩) (Below.heap_alloc _ _ _ HD2.out.lt)).trans ha5
 have ha54 : w4.cell? ⟨a, 5, none⟩ = some (.slice (some ⟨eb, eo, none⟩) x.mails.length ec) := (World.cell?_of_block (a := ⟨a, 5, none⟩) (hB4.block a HD2.out.lt)).trans ha5
 have ha55 : w5.cell? ⟨a, 5, none⟩ = some (.slice (some ⟨eb, eo, none⟩) x.mails.length ec) := (World.cell?_of_block (a := ⟨a, 5, none⟩) (hB5.block a HD2.out.lt)).trans ha5
 have hf55 : w5.frozen? ⟨a, 5, none⟩ = false := by have h1 := (hB5.block a HD2.out.lt).trans HD2.out.row; simp [World.frozen?, h1]
 have m5 : Mv (fun _ => False) own1 w2 (ext own1 w2.heap.size 13) w5 := Mv.of_below hB5 13
 have m56 : Mv (fun l => l = 10) own1 w2 (ext own1 w2.heap.size 13) (w5.setCell ⟨a, 5, none⟩ (.slice p8 n8 c8)) := (m5.mono fun l e => e.elim).trans (Mv.set (L := fun l => l = 10) (a := ⟨a, 5, none⟩) ((m5.lab a HD2.out.lt).trans HD2.out.oa) _)
 obtain ⟨hw6, m6⟩ := HD2.out.mails (m5.mono fun l e => e.elim) hro
 have HX6 := zh (HX2.out.mv m6 (by decide))
 have HY6 := zh (HY2.out.mv m6 (by decide))
 have HL6 := zh ((footed_esr _ _).move (S' := fun b => ext own1 w2.heap.size 13 b = 13) HL2.out fun b hb e => ⟨(m56.lab b hb).trans e, m56.same hb (by rw [e]; decide)⟩)
 have HT6 := zh ((footed_dat _ _).move (S' := fun b => ext own1 w2.heap.size 13 b = 13) HT2.out fun b hb e => ⟨(m56.lab b hb).trans e, m56.same hb (by rw [e]; decide)⟩)
 have HM6 := zh ((HM2.out.mono (L' := fun l => l = 10 ∨ l = 13) fun l e => e.elim).trans m6)
 have HD6 := zh hw6
 have HR6 := zh HY6.out.row
 have HZ6 := zh HX6.out.row
 have HR1 := zh hr1
 have HR2 := zh hr2
 clear hmr hro hB4 hB5 m5 m56 m6 hw6 hr1 hr2 HX2 HY2 HL2 HT2 HM2 HD2
 go_upto_region 3 with (refine wpList_append_run (u := .slice (some ⟨w2.heap.size, 0, none⟩) 0 0) (z := .slice (some ⟨eb, eo, none⟩) k ec) rfl (.tmp 14) (.tmp 20) 145 rfl rfl rfl HR1.out ?_)
 go_upto_region 4 with (refine wpList_append_run (u := u1) (z := .slice qa qn qc) rfl (.tmp 23) (.tmp 30) 145 rfl rfl rfl HR2.out ?_)
 go_wp2_with (first
  | (refine wpList_load151 rfl (.tmp 5) rfl rfl HR6.out rfl ?_)
  | (refine wpList_store_rowTo rfl 151 (.tmp 4) (.tmp 34) rfl rfl _ #[.int .i64 (m.from_ : Int), .int .i64 (m.to : Int), .int .u8 (m.x.kind : Int), .int .u64 (m.x.term : Int), .int .u64 (m.x.round : Int), .int .u64 (m.x.index : Int), .int .u64 (m.x.at_ : Int), .int .u64 (m.x.commit : Int), .bool m.x.yes, .slice pl nl cl, .slice pd nd cd, .int .i64 ag] rfl rfl 151 _ HZ6.out (show _ = some 12 by kernel_rfl) rfl (by simp [Value.oneCell']) ?_))
 have m7 := Mv.row9 HX6.out (ds := #[.int .i64 (m.from_ : Int), .int .i64 (m.to : Int), .int .u8 (m.x.kind : Int), .int .u64 (m.x.term : Int), .int .u64 (m.x.round : Int), .int .u64 (m.x.index : Int), .int .u64 (m.x.at_ : Int), .int .u64 (m.x.commit : Int), .bool m.x.yes, .slice pl nl cl, .slice pd nd cd, .int .i64 ag])
 refine bodyPost_ret (v := .agg #[.int .i64 (m.from_ : Int), .int .i64 (m.to : Int), .int .u8 (m.x.kind : Int), .int .u64 (m.x.term : Int), .int .u64 (m.x.round : Int), .int .u64 (m.x.index : Int), .int .u64 (m.x.at_ : Int), .int .u64 (m.x.commit : Int), .bool m.x.yes, .slice pl nl cl, .slice pd nd cd, .int .i64 ag]) (results_cell_row rfl _ _ w.heap.size 151 _ _ _ rfl (setRow_heap _ _ _ _ _ _ HZ6.out) Try.underlying151 rfl (show _ = some 12 by kernel_rfl)) rfl ?_
 exact ⟨pl, nl, cl, pd, nd, cd, ag, _, _, rfl, HD6.out.mv m7 (fun l e => by subst e; omega), (footed_esr _ _).move HL6.out fun b hb e => ⟨e, m7.same hb (by rw [e]; decide)⟩, (footed_dat _ _).move HT6.out fun b hb e => ⟨e, m7.same hb (by rw [e]; decide)⟩, HM6.out.newRow (Nat.le_refl _) _⟩
end
end Go.Proofs.Yteellfgiejnigaa
