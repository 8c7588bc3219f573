/- Laws on rows of the call's own that are told apart; a row of bytes as a string; append onto an empty row without room. -/
import Derived.Test.YteellfgiejnigaaOps
import Derived.Test.YteellfgiejnigaaReg
namespace Go.Proofs.Yteellfgiejnigaa
set_option linter.unusedVariables false
open Go.RowKit

/-- Rows of unlike elements lie in unlike blocks. -/
theorem own_apart {w : World} {b1 b2 s1 s2 n1 n2 : Nat} {e1 e2 : TypeId} {v1 v2 : Value} {x1 x2 : List Value} (h1 : w.ownsRow b1 e1 s1 v1 n1 x1) (h2 : w.ownsRow b2 e2 s2 v2 n2 x2) (he : e1 ≠ e2) : v1.ownBlock = none ∨ v1.ownBlock ≠ v2.ownBlock := by
  rcases h1.2 with ⟨rfl, _⟩ | ⟨g1, c1, r1, rfl, _, hh1, _⟩
  · exact .inl rfl
  · rcases h2.2 with ⟨rfl, _⟩ | ⟨g2, c2, r2, rfl, _, hh2, _⟩
    · exact .inr (by simp [Value.ownBlock])
    · refine .inr fun e => ?_
      simp [Value.ownBlock] at e
      subst e
      rw [hh1] at hh2
      simp at hh2
      exact he hh2.2

/-- A row of slices of the call's own. -/
theorem own_RdBs {w : World} {base : Nat} {e : TypeId} {p : Option Addr} {n c : Nat} {us : List Value} {ls : List (List UInt8)} (h : w.ownsRow base e 1 (.slice p n c) n us) (hl : us.length = ls.length) (hr : ∀ i, i < us.length → RdB w (us.getD i undef) (ls.getD i [])) : RdBs w (.slice p n c) ls := by
  have hn : n = us.length := by have := h.1; omega
  rcases h.2 with ⟨e1, h0⟩ | ⟨g, cap, cur, e1, _, hh, h1, h2, h3, h4⟩
  all_goals subst hn; refine ⟨p, c, us, rfl, ?_, hl, hr⟩
  · rw [h0] at e1; cases e1
    exact ⟨fun _ => rfl, by omega, by unfold maxLen; omega, fun hne => absurd (List.eq_nil_of_length_eq_zero h0) hne⟩
  · cases e1
    refine ⟨(fun e => by cases e), h1, h2, fun _ => ⟨g, 0, rfl, fun i hi => ?_⟩⟩
    rw [cell_of_row _ _ _ _ _ _ hh, Nat.zero_add]
    have h5 : us[i]? = some (us.getD i undef) := by rw [List.getElem?_eq_getElem hi, getD_of_lt _ _ _ hi]
    rw [← h4, List.getElem?_take, if_pos (by omega), h4] at h5
    simpa using h5

theorem run_convert_str {P : Program} {w : World} {v : Value} {l : List UInt8} (h : RdB w v l) (src e dst : TypeId) (hs : P.underlying src = some (.slice e)) (he : P.underlying e = some (.int .u8)) (hd : P.underlying dst = some .string) :
    (convert src dst v).run P w = .ok (.string ⟨l.toArray⟩) w := by
  obtain ⟨p, cap, rfl, h1, h2, h3, h4⟩ := h
  cases p with
  | none =>
    have hc := h1 rfl
    have : l = [] := List.eq_nil_of_length_eq_zero (by omega)
    subst this
    rw [run_convert_bytes_nil w src e hs he _ _ dst hd]; rfl
  | some ad =>
    by_cases hl : l = []
    · subst hl
      rw [run_convert_bytes_string w src dst e _ _ cap hs he hd]
      simp [Conv.bytesToString, loadCells, loadCellsFrom]
      rfl
    · obtain ⟨b, off, hp, hc⟩ := h4 hl
      cases hp
      have e1 : ∀ i, i < l.length → (l.map fun x => (x.toNat : Int)).getD i 0 = ((l.getD i 0).toNat : Int) := fun i hi => by
        rw [getD_of_lt _ _ _ (by simpa using hi), getD_of_lt _ _ _ hi]; simp
      rw [run_convert_bytes_arg w src e hs he b off l.length cap (l.map fun x => (x.toNat : Int)) (by simp) (fun i hi => by rw [e1 i hi]; exact hc i hi) dst hd]
      congr 2
      simp only [strOfNums, List.map_map]
      congr 1
      have : ((fun n : Int => UInt8.ofNat n.toNat) ∘ fun x : UInt8 => (x.toNat : Int)) = id := by funext x; simp
      rw [this, List.map_id]

/-- append onto an empty row without room: a new row, or nothing. -/
theorem run_append_fresh {P : Program} {w : World} {base : Nat} {t ty e : TypeId} {z : Value} {size bytes : Nat} (he : Elem P t e z size bytes) {g : Nat} (hown : w.ownsRow base e size (.slice (some ⟨g, 0, none⟩) 0 0) 0 [])
    {x : Value} {m : Nat} {news : List Value} (hsrc : SrcR w size x m news) (h63 : m ≤ maxLen) (hbytes : m * bytes ≤ 140737488355328) (hbase : base ≤ w.heap.size) :
    ∃ v' w', (Builtin.append_ #[t, t] ty #[.slice (some ⟨g, 0, none⟩) 0 0, x]).run P w = .ok v' w' ∧ w'.ownsRow base e size v' m news ∧ RegT.Grow w w' := by
  obtain ⟨i, hi, hz, hs, hb⟩ := info_parts he.info
  obtain ⟨p, c, rfl, hl, h1, hp⟩ := hsrc
  rcases hp with ⟨rfl, rfl, rfl⟩ | ⟨ad, rfl, hnews⟩
  · have hn : news = [] := List.eq_nil_of_length_eq_zero (by simpa using hl)
    subst hn
    exact ⟨_, w, run_append_owned_none w base t ty e i size he.sl hi _ 0 [] hown, hown, RegT.Grow.refl _⟩
  · rcases Nat.eq_zero_or_pos m with e0 | hpos
    · subst e0
      have hn : news = [] := List.eq_nil_of_length_eq_zero (by simpa using hl)
      subst hn
      rcases hown.2 with ⟨h, _⟩ | ⟨g', cap, cur, h, hg1, hg2, h3, h4, h5, h6⟩
      · cases h
      · cases h
        subst hs
        have hr := run_append_room (P := P) w t ty e i he.sl hi g 0 0 cur hg2 ad 0 c [] (by simp) hnews (by simp) (Nat.le_refl _) (by simp)
        simp only [Nat.zero_mul, List.take_zero, List.nil_append, List.length_nil, Nat.add_zero, List.drop_zero, Array.toArray_toList] at hr
        have hself : ∀ k, (w.setRow g cur).heap[k]? = w.heap[k]? := fun k => by
          by_cases ek : k = g
          · subst ek; rw [setRow_heap w k cur cur e (0, 0) hg2, hg2]
          · exact setRow_other w g k cur ek
        refine ⟨_, _, hr, ⟨hown.1, .inr ⟨g, 0, cur, rfl, hg1, by rw [hself]; exact hg2, h3, h4, h5, h6⟩⟩, ⟨rfl, rfl, rfl, by simp, fun k _ => hself k⟩⟩
    · subst hs
      have hr := run_append_grow (P := P) w t ty e i z he.sl hi hz ⟨g, 0, none⟩ 0 0 [] (by simp) (by simp) ad m c news hl hnews (by omega) (by simp only [maxLen] at h63; omega) (growslice_fits (by omega) (by rw [hb]; simpa using hbytes))
      simp only [Nat.zero_add] at hr
      have hge := grownCap_ge w m 0 e
      have hcm := grownCap_le_maxLen w m 0 e h63
      refine ⟨_, _, hr, ⟨hl, .inr ⟨w.heap.size, _, _, rfl, hbase, heap_alloc_new w.drew _, hge, hcm, ?_, ?_⟩⟩, ⟨rfl, rfl, rfl, by simp, fun k hk => Below.heap_alloc w.drew _ k hk⟩⟩
      · simp only [Array.size_append, List.size_toArray, size_zeroCells, he.zs, hl, List.length_nil, Nat.zero_add, ← Nat.add_mul]
        congr 1
        omega
      · simp only [Array.toList_append, List.nil_append]
        rw [← hl]
        exact List.take_left
end Go.Proofs.Yteellfgiejnigaa
