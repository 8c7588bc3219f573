/- Writing over entries: rows that may be spoiled, and the walk of spoil. -/
import Derived.Test.YteellfgiejnigaaT4
namespace Go.Proofs.Yteellfgiejnigaa
open Go.ChangeShapes Go.WideShapes Go.ChangeAt Go.RowKit
set_option linter.unusedVariables false

/-- n bytes lie here, in S, and may be written. -/
def Bs (w : World) (S : Foot) (d : Value) (n : Nat) : Prop := ∃ p c, d = .slice p n c ∧
  (0 < n → ∃ b off, p = some ⟨b, off, none⟩ ∧ S b ∧ b < w.heap.size ∧ ∀ i, i < n → (∃ x : Nat, x < 256 ∧ w.cell? ⟨b, off + i, none⟩ = some (.int .u8 (x : Int))) ∧ w.frozen? ⟨b, off + i, none⟩ = false)
theorem Bs.of_data {w : World} {S : Foot} {d : Value} {l : List UInt8} (h : DatA w S d l) : Bs w S d l.length := by
  obtain ⟨p, c, rfl, hp⟩ := h.rd
  refine ⟨p, c, rfl, fun hn => ?_⟩
  have hne : l ≠ [] := List.length_pos_iff.1 hn
  obtain ⟨b, off, rfl, hc⟩ := hp.2.2.2 hne
  exact ⟨b, off, rfl, h.foot b rfl hne, h.lt b rfl hne, fun i hi => ⟨⟨_, (l.getD i 0).toNat_lt, hc i hi⟩, h.thaw b off c rfl i hi⟩⟩
theorem Bs.same {w w' : World} {S : Foot} {d : Value} {n : Nat} (h : Bs w S d n) (hs : SameOn S w w') : Bs w' S d n := by
  obtain ⟨p, c, rfl, h⟩ := h
  refine ⟨p, c, rfl, fun hn => ?_⟩
  obtain ⟨b, off, rfl, hb, hl, hc⟩ := h hn
  refine ⟨b, off, rfl, hb, lt_same hl (hs b hb), fun i hi => ?_⟩
  obtain ⟨⟨x, hx, hcell⟩, hf⟩ := hc i hi
  exact ⟨⟨x, hx, (World.cell?_of_block (w := w) (a := ⟨b, off + i, none⟩) (hs b hb)).trans hcell⟩, (World.frozen?_of_block (w := w) (a := ⟨b, off + i, none⟩) (hs b hb)).trans hf⟩
theorem Bs.set {w : World} {S : Foot} {d : Value} {n : Nat} (h : Bs w S d n) (g j y : Nat) (hy : y < 256) : Bs (w.setCell ⟨g, j, none⟩ (.int .u8 (y : Int))) S d n := by
  obtain ⟨p, c, rfl, h⟩ := h
  refine ⟨p, c, rfl, fun hn => ?_⟩
  obtain ⟨b, off, rfl, hb, hl, hc⟩ := h hn
  refine ⟨b, off, rfl, hb, by simpa [World.setCell] using hl, fun i hi => ?_⟩
  obtain ⟨⟨x, hx, hcell⟩, hf⟩ := hc i hi
  refine ⟨?_, by rw [← hf]; exact World.frozen?_setCell ..⟩
  by_cases he : b = g ∧ off + i = j
  · obtain ⟨rfl, rfl⟩ := he
    exact ⟨y, hy, World.cell?_setCell_same _ _ _ hcell⟩
  · refine ⟨x, hx, ?_⟩
    rw [← hcell]
    exact World.cell?_setCell_other _ _ _ _ (by intro e; cases e; exact he ⟨rfl, rfl⟩)
/-- A row of entries, with so many bytes each, that may be written over. -/
def SpR (w : World) (S : Foot) (g : Nat) (ms : List Nat) : Prop := S g ∧ ∃ cur, w.heap[g]? = some (.cells cur 53) ∧
  ∀ i (hi : i < ms.length), (∃ t : Nat, t < 2 ^ 64 ∧ cur[i * 2]? = some (.int .u64 (t : Int))) ∧ ∃ d, cur[i * 2 + 1]? = some d ∧ Bs w (fun b => S b ∧ b ≠ g) d ms[i]
theorem SpR.of_row {w : World} {S : Foot} {g cap n : Nat} {es : List Ent} (h : EsG w S 53 (.slice (some ⟨g, 0, none⟩) n cap) es) : SpR w S g (es.map fun e => e.2.length) := by
  rcases h with ⟨h, _⟩ | ⟨g', cap', cur, h, hg, hh, h1, h2, h3, h4⟩
  · cases h
  · cases h
    refine ⟨hg, cur, hh, fun i hi => ?_⟩
    rw [List.length_map] at hi
    obtain ⟨d, q1, q2, q3, q4⟩ := h4.at i hi
    have up : ∀ j u, (cur.toList.take (es.length * 2))[j]? = some u → cur[j]? = some u := fun j u hu => by
      rw [List.getElem?_take] at hu
      split at hu
      · simpa using hu
      · cases hu
    refine ⟨⟨_, q4, up _ _ q1⟩, d, up _ _ q2, ?_⟩
    rw [List.getElem_map]
    exact Bs.of_data q3
theorem SpR.c0 {w : World} {S : Foot} {g : Nat} {ms : List Nat} (h : SpR w S g ms) {i : Nat} (hi : i < ms.length) : ∃ t : Nat, t < 2 ^ 64 ∧ w.cell? ⟨g, i * 2, none⟩ = some (.int .u64 (t : Int)) := by
  obtain ⟨_, cur, hh, hc⟩ := h
  obtain ⟨⟨t, ht, h0⟩, _⟩ := hc i hi
  exact ⟨t, ht, by rw [cell_of_row _ _ _ _ _ _ hh]; exact h0⟩
theorem SpR.c1 {w : World} {S : Foot} {g : Nat} {ms : List Nat} (h : SpR w S g ms) {i : Nat} (hi : i < ms.length) : ∃ d, w.cell? ⟨g, i * 2 + 1, none⟩ = some d ∧ Bs w (fun b => S b ∧ b ≠ g) d ms[i] := by
  obtain ⟨_, cur, hh, hc⟩ := h
  obtain ⟨_, d, h1, h2⟩ := hc i hi
  exact ⟨d, by rw [cell_of_row _ _ _ _ _ _ hh]; exact h1, h2⟩
theorem SpR.frozen {w : World} {S : Foot} {g : Nat} {ms : List Nat} (h : SpR w S g ms) (j : Nat) : w.frozen? ⟨g, j, none⟩ = false := by
  obtain ⟨_, cur, hh, _⟩ := h
  simp [World.frozen?, hh]
theorem SpR.byte {w : World} {S : Foot} {g : Nat} {ms : List Nat} (h : SpR w S g ms) {b j y : Nat} (hb : b ≠ g) (hy : y < 256) : SpR (w.setCell ⟨b, j, none⟩ (.int .u8 (y : Int))) S g ms := by
  obtain ⟨hg, cur, hh, hc⟩ := h
  refine ⟨hg, cur, by rw [Below.heap_setCell _ _ _ _ (by simpa using Ne.symm hb)]; exact hh, fun i hi => ?_⟩
  obtain ⟨h0, d, h1, h2⟩ := hc i hi
  exact ⟨h0, d, h1, h2.set b j y hy⟩
theorem SpR.term {w : World} {S : Foot} {g : Nat} {ms : List Nat} (h : SpR w S g ms) {k y : Nat} (hy : y < 2 ^ 64) : SpR (w.setCell ⟨g, k * 2, none⟩ (.int .u64 (y : Int))) S g ms := by
  obtain ⟨hg, cur, hh, hc⟩ := h
  refine ⟨hg, cur.set! (k * 2) (.int .u64 (y : Int)), ?_, fun i hi => ?_⟩
  · simp only [World.setCell, Array.getElem?_modify, hh, if_true, Option.map_some]
    rfl
  obtain ⟨⟨t, ht, h0⟩, d, h1, h2⟩ := hc i hi
  refine ⟨?_, d, ?_, h2.same fun b hb => Below.heap_setCell _ _ _ _ (by simpa using hb.2)⟩
  · simp only [Array.set!_eq_setIfInBounds, Array.getElem?_setIfInBounds]
    by_cases e : k * 2 = i * 2
    · rw [if_pos e]
      have : k * 2 < cur.size := by rw [e]; exact (Array.getElem?_eq_some_iff.1 h0).1
      exact ⟨y, hy, by rw [if_pos this]⟩
    · rw [if_neg e]; exact ⟨t, ht, h0⟩
  · simp only [Array.set!_eq_setIfInBounds, Array.getElem?_setIfInBounds]
    rw [if_neg (by omega)]; exact h1

set_option maxRecDepth 100000 in
theorem spoil_row_w (S : Foot) (g cap : Nat) (ms : List Nat) (n : Nat) (hn : n = ms.length) (w : World) (h : SpR w S g ms) (h6 : n ≤ 1000000) (hm : ∀ m ∈ ms, m ≤ 140737488355328) :
    Calls Try.prog 32 #[.slice (some ⟨g, 0, none⟩) n cap] w fun r w' => (∃ x, r = .returned x) ∧ Touch S w w' := by
  have H0 := Lib.hid h
  have Hm := Lib.hid hm
  have Hn := Lib.hid hn
  clear h hm hn
  go_enter Try.func32, Try.ntmps32
  go_wp2
  go_loopw [2] (fun i wr => ∃ k : Nat, k ≤ n ∧ i = .int .i64 (k : Int) ∧ Hid (SpR wr S g ms) ∧ Hid (Touch S w wr)) (fun i _ => n - (intOf i).toNat)
  case atStart => exact ⟨0, Nat.zero_le _, rfl, H0, Lib.hid (Touch.refl _ _)⟩
  case round =>
    obtain ⟨k, hk, rfl, HS, HW⟩ := hrel
    clear H0
    by_cases hlt : k < n
    · have hkm : k < ms.length := by rw [← Hn.out]; exact hlt
      have Hkm := Lib.hid hkm
      obtain ⟨M, hM⟩ : ∃ M, M = ms[k] := ⟨_, rfl⟩
      have HM := Lib.hid hM
      have hMl : M ≤ 140737488355328 := by rw [hM]; exact Hm.out _ (List.getElem_mem _)
      clear hkm hM
      go_wp2
      go_loopw [3] (fun j wr => ∃ m : Nat, m ≤ M ∧ j = .int .i64 (m : Int) ∧ Hid (SpR wr S g ms) ∧ Hid (Touch S w wr)) (fun i _ => M - (intOf i).toNat)
      case atStart => exact ⟨0, Nat.zero_le _, rfl, HS, HW⟩
      case round =>
        obtain ⟨m, hm, rfl, HS, HW⟩ := hrel

        obtain ⟨d, hc1, hbs⟩ := HS.out.c1 Hkm.out
        have hbs := (show Bs _ _ d M from by rw [HM.out]; exact hbs)
        obtain ⟨p, c, rfl, hb⟩ := hbs
        by_cases hml : m < M
        · obtain ⟨b, off, rfl, hSb, hbl, hcell⟩ := hb (by omega)
          obtain ⟨⟨x, hx, hcx⟩, hfx⟩ := hcell m hml
          obtain ⟨y, hy, hyl⟩ : ∃ y : Nat, IntKind.u8.wrap ((x : Int) + 1) = (y : Int) ∧ y < 256 := ⟨(x + 1) % 256, by rw [IntKind.wrap_u8]; omega, by omega⟩
          have HS2 := Lib.hid (HS.out.byte (j := off + m) (y := y) hSb.2 hyl)
          have HW2 := Lib.hid (HW.out.trans (Touch.of_grownBy (S := S) (Lib.grownBy_setCell _ b (off + m) (.int .u8 (y : Int))) (fun b' e => by cases e; exact hSb.1)) (S1 := S) fun _ _ e => e)
          clear hb hcell hSb hbl
          go_wp2
          go_roundw
          case rel => exact ⟨m + 1, by omega, by go_num, HS2, HW2⟩
          case measure => simp [intOf]; omega
        · have hm2 : m = M := by omega
          subst hm2
          obtain ⟨t, ht, hc0⟩ := HS.out.c0 Hkm.out
          have hf0 := HS.out.frozen (k * 2)
          obtain ⟨y, hy, hyl⟩ : ∃ y : Nat, IntKind.u64.wrap ((t : Int) + 1) = (y : Int) ∧ y < 2 ^ 64 := ⟨(t + 1) % 2 ^ 64, by rw [IntKind.wrap_u64]; omega, by omega⟩
          have HS2 := Lib.hid (HS.out.term (k := k) hyl)
          have HW2 := Lib.hid (HW.out.trans (Touch.of_grownBy (S := S) (Lib.grownBy_setCell _ g (k * 2) (.int .u64 (y : Int))) (fun b' e => by cases e; exact HS.out.1)) (S1 := S) fun _ _ e => e)
          clear hb ht hyl
          go_wp2
          go_roundw
          case rel => exact ⟨k + 1, by omega, by go_num, HS2, HW2⟩
          case measure => simp [intOf]; omega
    · have hk2 : k = n := by omega
      go_wp2
      go_end0
      exact ⟨⟨_, rfl⟩, HW.out⟩
theorem spoil_w (S : Foot) (v : Value) (es : List Ent) (w : World) (h : EsG w S 53 v es) (h6 : es.length ≤ 1000000) (hm : ∀ e ∈ es, e.2.length ≤ 140737488355328) :
    Calls Try.prog 32 #[v] w fun r w' => (∃ x, r = .returned x) ∧ Touch S w w' := by
  have h0 := h
  rcases h with ⟨rfl, rfl⟩ | ⟨g, cap, cur, rfl, _⟩
  · go_enter Try.func32, Try.ntmps32
    go_wp2
    go_loopw [2] (fun i wr => i = .int .i64 0 ∧ wr = w) (fun i _ => 0)
    case atStart => exact ⟨rfl, rfl⟩
    case round =>
      obtain ⟨rfl, rfl⟩ := hrel
      go_wp2
      go_end0
      exact ⟨⟨_, rfl⟩, Touch.refl _ _⟩
  · exact spoil_row_w S g cap _ _ (by simp) w (SpR.of_row h0) h6 fun m hm' => by
      obtain ⟨e, he, rfl⟩ := List.mem_map.1 hm'
      exact hm e he
end Go.Proofs.Yteellfgiejnigaa
