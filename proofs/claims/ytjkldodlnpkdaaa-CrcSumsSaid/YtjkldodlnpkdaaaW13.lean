/- Walk of the law on sums. -/
import Derived.Test.YtjkldodlnpkdaaaW12
import Derived.Test.YtjkldodlnpkdaaaOps2
namespace Go.Proofs.Ytjkldodlnpkdaaa
open Go.ChangeShapes Go.WideShapes Go.ChangeAt Go.RowKit
set_option linter.unusedVariables false

/-- A row of these bytes, and behind it one more, that is marked. -/
def Marked (base : Nat) (l : List UInt8) (v : Value) (w : World) : Prop := ∃ g c, v = .slice (some ⟨g, 0, none⟩) l.length c ∧ OB w base 5 (.slice (some ⟨g, 0, none⟩) (l.length + 1) c) (l ++ [77])
theorem Marked.keeps {base : Nat} {l : List UInt8} {v : Value} {x y : World} (h : Marked base l v x) (hk : Keeps x y) : Marked base l v y := by
  obtain ⟨g, c, e, h⟩ := h
  exact ⟨g, c, e, h.keeps hk⟩
theorem Marked.rd {base : Nat} {l : List UInt8} {v : Value} {w : World} (h : Marked base l v w) : RdB w v l := by
  obtain ⟨g, c, rfl, h⟩ := h
  rw [show l.length + 1 = (l ++ [77]).length by simp] at h
  obtain ⟨p', cap, e, hp⟩ := h.rd
  cases e
  have := hp.take l.length
  rw [List.take_left] at this
  exact ⟨_, _, rfl, this⟩
def Empt (base : Nat) (v : Value) (w : World) : Prop := ∃ g, v = .slice (some ⟨g, 0, none⟩) 0 0 ∧ OB w base 5 v []
def Own (base : Nat) (l : List UInt8) (v : Value) (w : World) : Prop := OB w base 5 v l
def Cell1 (base : Nat) (l : List UInt8) (v : Value) (w : World) : Prop := ∃ u g, v = .slice (some ⟨g, 0, none⟩) 1 1 ∧ w.heap[g]? = some (.cells #[u] 23 (0, 0)) ∧ Marked base l u w
theorem Cell1.keeps {base : Nat} {l : List UInt8} {v : Value} {x y : World} (h : Cell1 base l v x) (hk : Keeps x y) : Cell1 base l v y := by
  obtain ⟨u, g, e, hh, h⟩ := h
  exact ⟨u, g, e, by rw [hk g (Array.getElem?_eq_some_iff.1 hh).1]; exact hh, h.keeps hk⟩
theorem Cell1.src {base : Nat} {l : List UInt8} {v : Value} {w : World} (h : Cell1 base l v w) : ∃ u, SrcR w 1 v 1 [u] ∧ Marked base l u w := by
  obtain ⟨u, g, rfl, hh, h⟩ := h
  refine ⟨u, ⟨_, _, rfl, rfl, ?_, .inr ⟨_, rfl, fun j x hj => ?_⟩⟩, h⟩
  · obtain ⟨g', c', rfl, _⟩ := h
    intro x hx
    simp at hx; subst hx; rfl
  · match j, hj with
    | 0, hj =>
      simp at hj; subst hj
      show w.cell? ⟨g, 0, none⟩ = _
      rw [cell_of_row _ _ _ _ _ _ hh]; rfl

theorem len_le_flat (ls : List (List UInt8)) (i : Nat) (h : i < ls.length) : (ls.getD i []).length ≤ ls.flatten.length := by
  have e : ls = ls.take i ++ (ls[i] :: ls.drop (i + 1)) := by simp
  rw [getD_of_lt _ _ _ h]
  conv => rhs; rw [e, List.flatten_append, List.flatten_cons]
  simp; omega
theorem RdBs.form {w : World} {p : Option Addr} {n c : Nat} {ls : List (List UInt8)} (h : RdBs w (.slice p n c) ls) : ∃ vs, n = vs.length ∧ PtV w p c vs ∧ vs.length = ls.length ∧ ∀ i, i < vs.length → RdB w (vs.getD i undef) (ls.getD i []) := by
  obtain ⟨p', c', vs, e, h1, h2, h3⟩ := h
  cases e
  exact ⟨vs, rfl, h1, h2, h3⟩

theorem own_PtV {w : World} {base : Nat} {e : TypeId} {p : Option Addr} {n c : Nat} {us : List Value} (h : w.ownsRow base e 1 (.slice p n c) n us) : PtV w p c us := by
  have hn : n = us.length := by have := h.1; omega
  rcases h.2 with ⟨e1, h0⟩ | ⟨g, cap, cur, e1, _, hh, h1, h2, h3, h4⟩
  all_goals subst hn
  · rw [h0] at e1; cases e1
    exact ⟨fun _ => rfl, by omega, by unfold maxLen; omega, fun hne => absurd (List.eq_nil_of_length_eq_zero h0) hne⟩
  · cases e1
    refine ⟨(fun e => by cases e), h1, h2, fun _ => ⟨g, 0, rfl, fun i hi => ?_⟩⟩
    rw [cell_of_row _ _ _ _ _ _ hh, Nat.zero_add]
    have h5 : us[i]? = some (us.getD i undef) := by rw [List.getElem?_eq_getElem hi, getD_of_lt _ _ _ hi]
    rw [← h4, List.getElem?_take, if_pos (by omega), h4] at h5
    simpa using h5

theorem same_keeps {x y : World} (h : RegT.Same x y) : Keeps x y := fun _ _ => by rw [h.heap]

/-- What the run of one built-in append gives. -/
theorem append_ok {P : Program} {w w' : World} {t : TypeId} {v x v' : Value} {post : Value → World → Prop} {o : Oper} {ρ : Operand → Value} (s y : Operand)
    (ho : o.op = .call { callee := .builtin .append, args := #[s, y], argTypes := #[t, t] }) (hs : ρ s = v) (hy : ρ y = x) (hr : (Builtin.append_ #[t, t] o.type #[v, x]).run P w = .ok v' w') (hp : post v' w') : RegT.OpOK P ((execOp ρ o).run P w) post := by
  unfold execOp
  simp only [ho, resolve, invoke, builtin, Sem.run_bind, Sem.run_pure, Result.andThen_ok, List.map_toArray, List.map_cons, List.map_nil, hs, hy, hr]
  exact hp

set_option maxHeartbeats 1600000 in
theorem sums_w (v : Value) (ls : List (List UInt8)) (w : World) (hr : RdBs w v ls) (hl : ∀ i, i < ls.length → (ls.getD i []).length ≤ 140737488351232) :
    Calls Try.prog 3 #[v] w fun e w' => e = .returned (.bool true) ∧ Below w.heap.size w w' := by
  have ha := all_w v ls w hr hl
  obtain ⟨q, cap, vs, rfl, hq, hqn, hqr⟩ := hr
  have hvn : vs.length ≤ 9223372036854775807 := by have h1 := hq.2.1; have h2 := hq.2.2.1; unfold maxLen at h2; omega
  have Hr : Hid (RdBs w (.slice q vs.length cap) ls) := Lib.hid ⟨q, cap, vs, rfl, hq, hqn, hqr⟩
  have Hq := Lib.hid hq
  have Hqr := Lib.hid hqr
  have Hqn := Lib.hid hqn
  have Hl := Lib.hid hl
  have Ha := Lib.hid ha
  clear hq hqr hqn hl ha
  go_enter Try.func3, Try.ntmps3
  go_wp2_with fail
  refine (Ha.out).mono ?_
  rintro e w1 ⟨p, n, c, ok, rfl, hb1, hok⟩
  have Hb1 := Lib.hid hb1
  clear hb1
  cases ok with
  | false =>
    clear hok
    go_wp2_with (go_at_call 10; refine (known_w _).mono ?_; rintro e w2 ⟨rfl, hb2⟩)
    go_ret
    exact ⟨rfl, Hb1.out.trans (hb2.mono Hb1.out.size)⟩
  | true =>
    obtain ⟨ho, hl1000, hl20⟩ := hok rfl
    have Ho := Lib.hid ho
    clear hok ho
    go_wp2
    go_loopw [5, 6, 19] (fun b _ i wr => ∃ (k : Nat) (p' : Option Addr) (n' c' : Nat) (us : List Value), k ≤ vs.length ∧ i = .int .i64 k ∧ b = .slice p' n' c' ∧ n' = us.length ∧ us.length = k ∧ wr.ownsRow w1.heap.size 23 1 (.slice p' n' c') us.length us ∧
        (∀ i, i < k → Marked w1.heap.size (ls.getD i []) (us.getD i undef) wr) ∧ Below w1.heap.size w1 wr) (fun _ _ i _ => vs.length - (intOf i).toNat)
    case atStart => exact ⟨0, none, 0, 0, [], by omega, rfl, rfl, rfl, rfl, World.ownsRow_nil _ _ _ _, fun i hi => by omega, Below.refl _ _⟩
    case round =>
      obtain ⟨k, p', n', c', us, hk, rfl, rfl, hn', huk, how, hmk, hB⟩ := hrel
      have How := Lib.hid how
      have Hmk := Lib.hid hmk
      have HB := Lib.hid hB
      have Hn' := Lib.hid (And.intro hn' huk)
      clear hn' huk how hmk hB
      by_cases hlt : k < vs.length
      · have hkl : k < ls.length := by have := Hqn.out; omega
        obtain ⟨bq, oq, rfl, hbq, hcq0⟩ := Hq.out.at hlt
        have hwB : Below w.heap.size w wr := Hb1.out.trans (HB.out.mono Hb1.out.size)
        have hcq := (hwB.cell (p := ⟨bq, oq + k, none⟩) hbq).trans hcq0
        have hrk := (Hqr.out k hlt).below hwB
        have hlk := Hl.out k hkl
        have hbq2 : bq < wr.heap.size := Nat.lt_of_lt_of_le hbq hwB.size
        generalize hlv : ls.getD k [] = l at *
        obtain ⟨pk, ck, hvk, hpk⟩ := hrk
        have Hrk : Hid (RdB wr (.slice pk l.length ck) l) := Lib.hid ⟨pk, ck, rfl, hpk⟩
        rw [hvk] at hcq
        have Hlv := Lib.hid hlv
        have Hcq := Lib.hid hcq
        clear hcq0 hbq hvk hpk hlv hwB hcq
        have hi0 : (0 : Int) ≤ (k : Int) := Int.natCast_nonneg _
        have hi1 : (k : Int) < (vs.length : Int) := by omega
        go_wp2_with fail
        have hB0 : wr.heap.size ≤ wr.drew.heap.size := Nat.le_refl _
        have cellW : ∀ W, RegT.Under wr.heap.size wr.drew W → W.cell? ⟨bq, oq + k, none⟩ = some (.slice pk l.length ck) := fun W hR => ((hR hB0).1.cell (p := ⟨bq, oq + k, none⟩) hbq2).trans Hcq.out
        have CellW := Lib.hid cellW
        clear cellW
        apply RegT.wp_region_T rfl 87 16 rfl (by kernel_rfl) (RegT.Under wr.heap.size) (RegT.Under.refl _) (RegT.Under.trans _)
        · iterate 1
            apply RegT.T_pure rfl rfl rfl
            · intro W hR;  go_simp; rfl
            simp only [List.set_cons_succ, List.set_cons_zero, Nat.reduceAdd]
          apply RegT.T_predC rfl rfl rfl 6 (Empt wr.heap.size) (RegT.Under.grow _) (fun v x y hR ⟨g, e, h⟩ => ⟨g, e, h.keeps hR.block⟩)
          · intro W hR _
            have hsz := (hR hB0).2
            go_simp
            refine RegT.OpOK_value ⟨⟨_, rfl, ?_⟩, (Below.refl _ _).alloc (Nat.le_refl _) _⟩
            exact World.ownsRow_lit W #[] 0 hsz (by unfold maxLen; omega) rfl
          intro v1
          simp only [List.set_cons_succ, List.set_cons_zero, Nat.reduceAdd]
          iterate 4
            apply RegT.T_pure rfl rfl rfl
            · intro W hR; have hc := CellW.out W hR; go_simp; rfl
            simp only [List.set_cons_succ, List.set_cons_zero, Nat.reduceAdd]
          apply RegT.T_predC rfl rfl rfl 8 (Own wr.heap.size l) (RegT.Under.grow _) (fun v x y hR h => OB.keeps h hR.block)
          · intro W hR hf
            have hsz := (hR hB0).2
            obtain ⟨g, rfl, h1⟩ := hf _ (.head _) (by kernel_rfl) (.inr rfl)
            obtain ⟨v', w', hr, ho', hg⟩ := run_append_fresh (ty := 23) hel h1 ((Hrk.out.below ((Below.refl _ wr).drew.trans (hR hB0).1)).src) (by unfold maxLen; omega) (by omega) hsz
            exact append_ok (.tmp 23) (.tmp 27) rfl rfl rfl hr ⟨ho', hg⟩
          intro v6
          simp only [List.set_cons_succ, List.set_cons_zero, Nat.reduceAdd]
          apply RegT.T_predC rfl rfl rfl 8 (fun v w => RdB w v [77]) (RegT.Under.grow _) (fun v x y hR h => RdB.keeps h hR.block)
          · intro W hR _
            go_simp
            refine RegT.OpOK_value ⟨RdB_of_block (heap_alloc_new W _) rfl (by decide) (by decide) ?_, (Below.refl _ _).alloc (Nat.le_refl _) _⟩
            intro i hi
            match i, hi with
            | 0, _ => rfl
          intro v7
          simp only [List.set_cons_succ, List.set_cons_zero, Nat.reduceAdd]
          apply RegT.T_write rfl rfl rfl (some 14) (Own wr.heap.size (l ++ [77])) (fun v x y hR h => OB.keeps h hR.block)
          · intro W hR hf
            have hsz := (hR hB0).2
            have h7 := hf _ (.head _) (by kernel_rfl) (.inr rfl)
            have h6 := hf _ (.tail _ (.head _)) (by kernel_rfl) (.inr rfl)
            obtain ⟨v', w', hr, ho', hg⟩ := run_append_src (ty := 23) hel h6 (RdB.src h7) (by simp [maxLen]; omega) (by simp; omega) hsz
            refine append_ok (.tmp 28) (.tmp 29) rfl rfl rfl hr ⟨?_, fun _ => ⟨below_own h6 hg hsz, Nat.le_trans hsz hg.size⟩⟩
            show OB w' wr.heap.size 5 v' (l ++ [77])
            unfold OB
            rw [List.length_append, List.map_append]
            exact ho'
          intro v8
          simp only [List.set_cons_succ, List.set_cons_zero, Nat.reduceAdd]
          iterate 5
            apply RegT.T_pure rfl rfl rfl
            · intro W hR; have hc := CellW.out W hR; go_simp; rfl
            simp only [List.set_cons_succ, List.set_cons_zero, Nat.reduceAdd]
          apply RegT.T_pred rfl rfl rfl (Marked wr.heap.size l) (RegT.Under.grow _) (fun v x y hR h => Marked.keeps h hR.block)
          · intro W hR hf
            have h8 := hf _ (.head _) (by kernel_rfl) (.inr rfl)
            obtain ⟨p8, c8, e8⟩ := OB.form (show OB W wr.heap.size 5 v8 (l ++ [77]) from h8)
            have h8' : OB W wr.heap.size 5 v8 (l ++ [77]) := h8
            rw [e8] at h8'
            obtain ⟨g8, rfl, _⟩ := h8'.some (by simp)
            have hcap : (l ++ [77]).length ≤ c8 := by obtain ⟨_, _, e, hp⟩ := h8'.rd; cases e; exact hp.2.1
            have hsl := run_slice_hi 23 5 Try.underlying23 1 (show (Try.prog.info? 5).map (·.size) = some 1 by kernel_rfl) (some ⟨g8, 0, none⟩) (l ++ [77]).length c8 l.length (by rw [List.length_append] at hcap; omega) W
            have H8 := Lib.hid h8'
            clear hf h8 h8' hcap
            subst e8
            have hfin : Marked wr.heap.size l (.slice (some ⟨g8, 0, none⟩) l.length c8) W := ⟨g8, c8, rfl, by have := H8.out; rwa [List.length_append] at this⟩
            have Hfin := Lib.hid hfin
            clear hfin
            simp only [List.length_append, List.length_cons, List.length_nil, Nat.zero_add] at hsl
            go_simp
            exact RegT.OpOK_value ⟨Hfin.out, RegT.Grow.refl _⟩
          intro v14
          simp only [List.set_cons_succ, List.set_cons_zero, Nat.reduceAdd]
          apply RegT.T_pred rfl rfl rfl (Cell1 wr.heap.size l) (RegT.Under.grow _) (fun v x y hR h => Cell1.keeps h hR.block)
          · intro W hR hf
            have h14 := hf _ (.head _) (by kernel_rfl) (.inl rfl)
            have H14 : Hid (Marked wr.heap.size l v14 W) := Lib.hid h14
            obtain ⟨g14, c14, rfl, _⟩ := h14
            clear hf
            go_simp
            exact RegT.OpOK_value ⟨⟨_, _, rfl, heap_alloc_new W _, H14.out.keeps ((Keeps.refl _).alloc _)⟩, (Below.refl _ _).alloc (Nat.le_refl _) _⟩
          intro v15
          simp only [List.set_cons_succ, List.set_cons_zero, Nat.reduceAdd]
          refine RegT.T_tail fun W hR hf => ?_
          have h15 := hf _ (.head _) (.inl rfl)
          have hsz := (hR hB0).2
          have hBel : Below wr.heap.size wr W := (Below.refl _ wr).drew.trans (hR hB0).1
          obtain ⟨u, hsrc, hmu⟩ := Cell1.src h15
          have HowW := Lib.hid (own_below How.out hBel)
          have Hsrc := Lib.hid hsrc
          have Hmu := Lib.hid hmu
          have HBel := Lib.hid hBel
          clear hsrc hmu hBel h15 hf hR
          show wpList _ _ _ [_, _] _ _
          refine wpList_append_src rfl (.tmp 22) (.tmp 37) 22 rfl (⟨Try.underlying22, by kernel_rfl, rfl, by decide⟩ : Elem Try.prog 22 23 (.slice none 0 0) 1 24) rfl HowW.out rfl Hsrc.out (by have := Hn'.out; unfold maxLen; omega) (by have := Hn'.out; omega) (by have := HB.out.size; omega) ?_
          intro v' w' ho' hg'
          have hB2 : Below w1.heap.size w1 w' := (HB.out.trans (HBel.out.mono HB.out.size)).trans (below_own HowW.out hg' (by have := HB.out.size; omega))
          have hmk : ∀ i, i < k → Marked w1.heap.size (ls.getD i []) (us.getD i undef) w' := fun i hi => by
            obtain ⟨g, c, e, h⟩ := (Hmk.out i hi).keeps HBel.out.block
            exact ⟨g, c, e, World.ownsRow.kept h hg' (own_apart h HowW.out (by decide))⟩
          have hmu : Marked w1.heap.size l u w' := by
            obtain ⟨g, c, e, h⟩ := Hmu.out
            have h' : OB W w1.heap.size 5 (.slice (some ⟨g, 0, none⟩) (l.length + 1) c) (l ++ [77]) := by
              refine ⟨h.1, ?_⟩
              rcases h.2 with h2 | ⟨g2, cap2, cur, hv, hg2, r⟩
              · exact .inl h2
              · exact .inr ⟨g2, cap2, cur, hv, Nat.le_trans HB.out.size hg2, r⟩
            exact ⟨g, c, e, World.ownsRow.kept h' hg' (own_apart h' HowW.out (by decide))⟩
          obtain ⟨pv, cv, rfl⟩ : ∃ p c, v' = .slice p (us.length + 1) c := by
            rcases ho'.2 with ⟨rfl, hn⟩ | ⟨g, cap, cur, rfl, _⟩
            · exact absurd hn (by omega)
            · exact ⟨_, _, rfl⟩
          have HoN := Lib.hid ho'
          have HB2 := Lib.hid hB2
          have HmkN := Lib.hid (And.intro hmk hmu)
          clear ho' hg' hB2 hmk hmu HowW Hsrc Hmu HBel How Hmk HB
          go_wp2
          go_roundw
          case rel =>
            refine ⟨k + 1, pv, us.length + 1, cv, us ++ [u], by omega, by go_num, rfl, by simp, by have := Hn'.out; simp; omega, by rw [List.length_append]; exact HoN.out, fun i hi => ?_, HB2.out⟩
            by_cases e : i < k
            · rw [show (us ++ [u]).getD i undef = us.getD i undef by simp only [List.getD]; rw [List.getElem?_append_left (by have := Hn'.out; omega)]]
              exact HmkN.out.1 i e
            · have e2 : i = k := by omega
              subst e2
              rw [show (us ++ [u]).getD i undef = u by simp only [List.getD]; rw [List.getElem?_append_right (by have := Hn'.out; omega), show i - us.length = 0 by have := Hn'.out; omega]; rfl, Hlv.out]
              exact HmkN.out.2
          case measure => simp [intOf]; omega
        · rfl
        · kernel_rfl
      · have hkv : k = vs.length := by omega
        have hlen : us.length = ls.length := by have h1 := Hn'.out; have h2 := Hqn.out; omega
        have hrr : ∀ i, i < us.length → RdB wr (us.getD i undef) (ls.getD i []) := fun i hi => (Hmk.out i (by have := Hn'.out; omega)).rd
        have how := How.out
        rw [← Hn'.out.1] at how
        have Hpt := Lib.hid (own_PtV how)
        have hin := own_RdBs how hlen hrr
        have hsum := sum_w _ ls wr hin (by omega) (fun i hi => by
          have := len_le_flat ls i hi
          omega)
        have How := Lib.hid how
        have Hsum := Lib.hid hsum
        have Hhin := Lib.hid hin
        clear hsum hin hrr how
        have hslt := Crc.sum_lt ls.flatten
        obtain ⟨s, hs⟩ : ∃ s, Crc.sum ls.flatten = s := ⟨_, rfl⟩
        have Hs := Lib.hid hs
        clear hs
        go_wp2_with fail
        refine (Hsum.out).mono ?_
        rintro e w2 ⟨rfl, hb2⟩
        rw [Hs.out]
        have How2 := Lib.hid (own_below How.out hb2)
        have Hmk2 := Lib.hid (fun i hi => (Hmk.out i hi).keeps hb2.block)
        have HB2 := Lib.hid (HB.out.trans (hb2.mono HB.out.size))
        have Hpt2 := Lib.hid (Hpt.out.keeps hb2.block)
        have Hr2 := Lib.hid (Hr.out.keeps (Hb1.out.trans (HB2.out.mono Hb1.out.size)).block)
        have Hb2 := Lib.hid (HB.out.trans (hb2.mono HB.out.size))
        have Ho2 := Lib.hid (Ho.out.below HB2.out)
        have hsl := Crc.sum_lt ls.flatten
        clear hb2 Hsum How Hmk HB hslt Hhin hsl Hpt
        go_wp2
        go_loopw [8, 44] (fun _ i wz => ∃ k : Nat, k ≤ vs.length ∧ i = .int .i64 k ∧ RegT.Same w2 wz) (fun _ i _ => vs.length - (intOf i).toNat)
        case atStart => exact ⟨0, by omega, rfl, RegT.Same.refl _⟩
        case round =>
          obtain ⟨k2, hk2, rfl, hS⟩ := hrel
          have HS := Lib.hid hS
          clear hS
          obtain ⟨vl, hvl1, hvl2, hvl3, hvl4⟩ := RdBs.form (Hr2.out.keeps (same_keeps HS.out))
          have Hvl := Lib.hid (And.intro hvl1 (And.intro hvl2 (And.intro hvl3 hvl4)))
          clear hvl1 hvl2 hvl3 hvl4
          by_cases hlt2 : k2 < vs.length
          · have hkl : k2 < ls.length := by have := Hqn.out; omega
            have hki : k2 < us.length := by have := Hn'.out; omega
            have hkw : k2 < vl.length := by have := Hvl.out.2.2.1; omega
            obtain ⟨bi, oi, rfl, hbi, hci⟩ := (Hpt2.out.keeps (same_keeps HS.out)).at hki
            obtain ⟨bl, ol, rfl, hbl, hcl⟩ := Hvl.out.2.1.at hkw
            have hrl := Hvl.out.2.2.2 k2 hkw
            have hru : ∃ u, us.getD k2 undef = u ∧ Marked w1.heap.size (ls.getD k2 []) u wr := ⟨_, rfl, (Hmk2.out k2 (by omega)).keeps (same_keeps HS.out)⟩
            obtain ⟨u, hu, hmu⟩ := hru
            rw [hu] at hci
            have hlk := Hl.out k2 hkl
            generalize ls.getD k2 [] = l at *
            obtain ⟨pl, cl, hvl, hpl⟩ := hrl
            rw [hvl] at hcl
            obtain ⟨gu, cu, rfl, hou⟩ := hmu
            have hmk : Marked w1.heap.size l (.slice (some ⟨gu, 0, none⟩) l.length cu) wr := ⟨gu, cu, rfl, hou⟩
            have hc1 := fun W (hR : RegT.Same wr.drew W) => run_convert_str (P := Try.prog) (hmk.rd.keeps (w' := W) (.of_heap hR.heap)) 23 5 9 Try.underlying23 Try.underlying5 Try.underlying9
            have hc2 := fun W (hR : RegT.Same wr.drew W) => run_convert_str (P := Try.prog) (w := W) (v := .slice pl l.length cl) (l := l) (⟨pl, cl, rfl, hpl.keeps (.of_heap hR.heap)⟩) 23 5 9 Try.underlying23 Try.underlying5 Try.underlying9
            have hcap : l.length + 1 ≤ cu := by obtain ⟨_, _, e, hp⟩ := (show OB wr w1.heap.size 5 (.slice (some ⟨gu, 0, none⟩) ((l ++ [77]).length) cu) (l ++ [77]) by rw [List.length_append]; exact hou).rd; cases e; have := hp.2.1; rw [List.length_append] at this; exact this
            have hsl := run_slice_hi 23 5 Try.underlying23 1 (show (Try.prog.info? 5).map (·.size) = some 1 by kernel_rfl) (some ⟨gu, 0, none⟩) l.length cu (l.length + 1) hcap
            have hsl' : ∀ W, (Instr.sliceAt 23 (.slice (some ⟨gu, 0, none⟩) l.length cu) none (some (.int .i64 ((l.length : Int) + 1))) none).run Try.prog W = .ok (.slice (some ⟨gu, 0, none⟩) (l.length + 1) cu) W := fun W => hsl W
            obtain ⟨h77, -, -, -⟩ := hou.cell (by simp) (j := l.length) (by simp)
            have e77 : (l ++ [77]).getD l.length 0 = (77 : UInt8) := by simp [List.getD]
            rw [e77] at h77
            have hwr : IntKind.i64.wrap ((l.length : Int) + 1) = (l.length : Int) + 1 := IntWalk.i64_in _ (by omega)
            have Hc1 := Lib.hid hc1
            have Hc2 := Lib.hid hc2
            have hi0 : (0 : Int) ≤ (k2 : Int) := Int.natCast_nonneg _
            have hi1 : (k2 : Int) < (vs.length : Int) := by omega
            have hi2 : (k2 : Int) < (n' : Int) := by have := Hn'.out; omega
            have hi3 : (0 : Int) ≤ (l.length : Int) := Int.natCast_nonneg _
            have hi4 : (l.length : Int) < (l.length : Int) + 1 := by omega
            clear hc1 hc2 hsl hcap hvl hpl hmk hou e77 hu Hvl Hmk2 Hpt2
            go_wp2_with fail
            apply RegT.wp_region_T rfl 87 32 rfl (by kernel_rfl) RegT.Same RegT.Same.refl RegT.Same.trans
            · iterate 32
                apply RegT.T_pure rfl rfl rfl
                · intro W hR; have t1 := hR.cell (x := wr.drew) hci; have t2 := hR.cell (x := wr.drew) hcl; have t3 := hR.cell (x := wr.drew) h77; have t4 := Hc1.out W hR; have t5 := Hc2.out W hR; go_simp; rfl
                simp only [List.set_cons_succ, List.set_cons_zero, Nat.reduceAdd]
              refine RegT.T_end rfl fun W hR _ => ?_
              have HR := Lib.hid (show RegT.Same w2 W from RegT.Same.trans _ _ _ HS.out ⟨hR.heap, hR.os, hR.tape, hR.output⟩)
              clear hR
              go_wp2
              go_roundw
              case rel => exact ⟨k2 + 1, by omega, by go_num, HR.out⟩
              case measure => simp [intOf]; omega
            · rfl
            · kernel_rfl
          · clear Hpt2 Hmk2 Hvl
            have HbW := Lib.hid (Hb2.out.trans HS.out.below)
            have HoW := Lib.hid ((Ho2.out.keeps (same_keeps HS.out)).rd)
            have hrs := refsum_w (.slice p n c) ls.flatten wr HoW.out (by omega)
            rw [Hs.out] at hrs
            have Hrs := Lib.hid hrs
            clear hrs
            go_wp2_with (first
              | (go_at_call 12; refine (Hrs.out).mono ?_; rintro e w4 ⟨rfl, rfl⟩)
              | (go_at_call 10; refine (known_w _).mono ?_; rintro e w5 ⟨rfl, hb5⟩; have Hg5 := Lib.hid ((Hb1.out.trans (HbW.out.mono Hb1.out.size)).trans (hb5.mono (Hb1.out.trans (HbW.out.mono Hb1.out.size)).size)); clear hb5))
            go_ret
            exact ⟨rfl, Hg5.out⟩
end Go.Proofs.Ytjkldodlnpkdaaa
