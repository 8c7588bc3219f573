/- Reading a note: what is carried from step to step. -/
import Derived.Test.YteellfgiejnigaaQbU4
namespace Go.Proofs.Yteellfgiejnigaa
open Go.ChangeShapes Go.WideShapes Go.ChangeAt Go.RowKit
set_option linter.unusedVariables false
def zN : Array Value := #[.int .u8 0, .int .u64 0, .int .u64 0, .int .u64 0, .int .u64 0, .int .u64 0, .bool false, .slice none 0 0, .slice none 0 0]
theorem hz31 : ((Try.prog.info? 31).bind (·.zero)).map Value.cells = some zN := by kernel_rfl
theorem hz131 : ((Try.prog.info? 131).bind (·.zero)).map Value.cells = some #[.bool false, .pointer none] := by kernel_rfl
/-- A note's cells while its numbers are read: j of them are laid down. -/
def fv (f : Nat → Nat) (i j : Nat) : Nat := if i < j then f i else 0
def xr (k t : Nat) (f : Nat → Nat) (j : Nat) (y : Bool) (lv dv : Value) : Array Value :=
  #[.int .u8 (k : Int), .int .u64 (t : Int), .int .u64 (fv f 0 j : Nat), .int .u64 (fv f 1 j : Nat), .int .u64 (fv f 2 j : Nat), .int .u64 (fv f 3 j : Nat), .bool y, lv, dv]
theorem xr_set (k t : Nat) (f : Nat → Nat) (j : Nat) (hj : j < 4) (y : Bool) (lv dv : Value) : (xr k t f j y lv dv).setIfInBounds (2 + j) (.int .u64 (f j : Nat)) = xr k t f (j + 1) y lv dv := by
  have h : j = 0 ∨ j = 1 ∨ j = 2 ∨ j = 3 := by omega
  rcases h with rfl | rfl | rfl | rfl <;> rfl
theorem xr_skip (k t : Nat) (f : Nat → Nat) (j : Nat) (hj : j < 4) (h0 : f j = 0) (y : Bool) (lv dv : Value) : xr k t f j y lv dv = xr k t f (j + 1) y lv dv := by
  have h : ∀ i, fv f i j = fv f i (j + 1) := by
    intro i
    unfold fv
    by_cases h1 : i < j
    · rw [if_pos h1, if_pos (by omega)]
    · rw [if_neg h1]
      by_cases h2 : i = j
      · subst h2; rw [if_pos (by omega), h0]
      · rw [if_neg (by omega)]
  unfold xr
  rw [h 0, h 1, h 2, h 3]
theorem xr_yes (k t : Nat) (f : Nat → Nat) (j : Nat) (y y' : Bool) (lv dv : Value) : (xr k t f j y lv dv).setIfInBounds 6 (.bool y') = xr k t f j y' lv dv := rfl
theorem xr_list (k t : Nat) (f : Nat → Nat) (j : Nat) (y : Bool) (lv lv' dv : Value) : (xr k t f j y lv dv).setIfInBounds 7 lv' = xr k t f j y lv' dv := rfl
theorem xr_data (k t : Nat) (f : Nat → Nat) (j : Nat) (y : Bool) (lv dv dv' : Value) : (xr k t f j y lv dv).setIfInBounds 8 dv' = xr k t f j y lv dv' := rfl
theorem xr_ntv (k t : Nat) (f : Nat → Nat) (y : Bool) (L : List Ent) (D : List UInt8) (lv dv : Value) : Value.agg (xr k t f 4 y lv dv) = ntv ⟨k, t, f 0, f 1, f 2, f 3, y, L, D⟩ lv dv := rfl
theorem xr_one (k t : Nat) (f : Nat → Nat) (j : Nat) (y : Bool) (p q : Option Addr) (n m c d : Nat) : (xr k t f j y (.slice p n c) (.slice q m d)).all (·.oneCell') = true := by simp [xr, Value.oneCell']

/-- The places: the reader's, the note's, the result's, the flags'; they lie apart, and not where the bytes lie. -/
structure Pl (w : World) (g B R H : Nat) (v : Value) : Prop where
  g0 : w.heap.size ≤ g
  B0 : w.heap.size ≤ B
  R0 : w.heap.size ≤ R
  H0 : w.heap.size ≤ H
  gB : g ≠ B
  gR : g ≠ R
  gH : g ≠ H
  BR : B ≠ R
  BH : B ≠ H
  RH : R ≠ H
  BlH : B < H
  off : ∀ x, w.heap.size ≤ x → Off v x
structure NR (w W : World) (g B R H : Nat) (v : Value) (b : List UInt8) (s : Rd.St) (cs hs : Array Value) : Prop where
  rd : Rdr W g v s.1 s.2
  x : W.heap[B]? = some (.cells cs 31)
  rz : W.heap[R]? = some (.cells zN 31)
  h : W.heap[H]? = some (.cells hs 112)
  below : Below w.heap.size w W
  bs : RdB W v b
theorem Rdr.keeps {w w' : World} {g : Nat} {v : Value} {a : Nat} {e : Int} (h : Rdr w g v a e) (hk : Keeps w w') : Rdr w' g v a e := by
  unfold Rdr at *; rw [hk g (Array.getElem?_eq_some_iff.1 h).1]; exact h
theorem Rdr.kept {w w' : World} {g : Nat} {v : Value} {a : Nat} {e : Int} (h : Rdr w g v a e) {row : Option Nat} (hg : w.grownBy w' row) (hne : some g ≠ row) : Rdr w' g v a e := by
  unfold Rdr at *; rw [hg.block g (Array.getElem?_eq_some_iff.1 h).1 hne]; exact h
theorem lt_of_at {W : World} {B : Nat} {o : Obj} (h : W.heap[B]? = some o) : B < W.heap.size := (Array.getElem?_eq_some_iff.1 h).1
section
variable {w W W' : World} {g B R H : Nat} {v : Value} {b : List UInt8} {s : Rd.St} {cs hs : Array Value}
theorem NR.keep (h : NR w W g B R H v b s cs hs) (hB : Below W.heap.size W W') : NR w W' g B R H v b s cs hs :=
  ⟨h.rd.keeps hB.block, (hB.block B (lt_of_at h.x)).trans h.x, (hB.block R (lt_of_at h.rz)).trans h.rz, (hB.block H (lt_of_at h.h)).trans h.h, h.below.trans (hB.mono h.below.size), h.bs.keeps hB.block⟩
theorem NR.read (h : NR w W g B R H v b s cs hs) (P : Pl w g B R H v) {a' : Nat} {e' : Int} (hm : Moved W W' g v a' e') : NR w W' g B R H v b (a', e') cs hs :=
  ⟨hm.1, (hm.2.block B (lt_of_at h.x) (by simpa using P.gB.symm)).trans h.x, (hm.2.block R (lt_of_at h.rz) (by simpa using P.gR.symm)).trans h.rz, (hm.2.block H (lt_of_at h.h) (by simpa using P.gH.symm)).trans h.h,
    h.below.grown hm.2 h.below.size (fun k e => by cases e; exact P.g0), h.bs.grown hm.2 (P.off g P.g0)⟩
theorem NR.put (h : NR w W g B R H v b s cs hs) (P : Pl w g B R H v) (i : Nat) (y : Value) : NR w (W.setCell ⟨B, i, none⟩ y) g B R H v b s (cs.setIfInBounds i y) hs := by
  have hg := Lib.grownBy_setCell W B i y
  refine ⟨h.rd.kept hg (by simpa using P.gB), ?_, (hg.block R (lt_of_at h.rz) (by simpa using P.BR.symm)).trans h.rz, (hg.block H (lt_of_at h.h) (by simpa using P.BH.symm)).trans h.h,
    h.below.grown hg h.below.size (fun k e => by cases e; exact P.B0), h.bs.grown hg (P.off B P.B0)⟩
  have hx := h.x
  simp only [World.setCell, Array.getElem?_modify, hx, if_true, Option.map_some]
  rfl
theorem NR.at (h : NR w W g B R H v b s cs hs) (i : Nat) : W.cell? ⟨B, i, none⟩ = cs[i]? := cell_of_row _ _ _ _ _ _ h.x
theorem NR.flag (h : NR w W g B R H v b s cs hs) (i : Nat) : W.cell? ⟨H, i, none⟩ = hs[i]? := cell_of_row _ _ _ _ _ _ h.h
theorem NR.thaw (h : NR w W g B R H v b s cs hs) (i : Nat) : W.frozen? ⟨B, i, none⟩ = false := by
  have hx := h.x
  simp [World.frozen?, hx]
end
/-- Ahead of the note's place: the reader and the result. -/
structure PR (w W : World) (v : Value) (b : List UInt8) (s : Rd.St) : Prop where
  rd : Rdr W (w.heap.size + 1) v s.1 s.2
  rz : W.heap[w.heap.size]? = some (.cells zN 31)
  below : Below w.heap.size w W
  bs : RdB W v b
theorem PR.start {w : World} {v : Value} {b : List UInt8} (hb : RdB w v b) : PR w ((w.alloc (.cells zN 31)).alloc (.cells #[v, .int .i64 0, .int .i64 0] 171)) v b (0, 0) := by
  have hB : Below w.heap.size w ((w.alloc (.cells zN 31)).alloc (.cells #[v, .int .i64 0, .int .i64 0] 171)) := ((Below.refl _ _).alloc (Nat.le_refl _) _).alloc (by simp) _
  refine ⟨?_, ?_, hB, hb.keeps hB.block⟩
  · have := heap_alloc_new (w.alloc (.cells zN 31)) (.cells #[v, .int .i64 0, .int .i64 0] 171)
    simpa [Rdr] using this
  · rw [Below.heap_alloc (w.alloc (.cells zN 31)) _ w.heap.size (by simp)]
    exact heap_alloc_new w _
theorem PR.read {w W W' : World} {v : Value} {b : List UInt8} {s : Rd.St} (h : PR w W v b s) (ho : ∀ x, w.heap.size ≤ x → Off v x) {a' : Nat} {e' : Int} (hm : Moved W W' (w.heap.size + 1) v a' e') : PR w W' v b (a', e') :=
  ⟨hm.1, (hm.2.block _ (lt_of_at h.rz) (by simp)).trans h.rz, h.below.grown hm.2 h.below.size (fun k e => by cases e; exact Nat.le_succ _), h.bs.grown hm.2 (ho _ (Nat.le_succ _))⟩
theorem Pl.start {w W W4 : World} {v : Value} {b : List UInt8} {s : Rd.St} {cs : Array Value} (h : PR w W v b s) (ho : ∀ x, w.heap.size ≤ x → Off v x) (hB : Below (W.alloc (.cells cs 31)).heap.size (W.alloc (.cells cs 31)) W4) : Pl w (w.heap.size + 1) W.heap.size w.heap.size W4.heap.size v := by
  have h1 : w.heap.size + 1 < W.heap.size := h.rd.lt
  have h2 : W.heap.size + 1 ≤ W4.heap.size := by have := hB.size; simpa using this
  exact ⟨by omega, by omega, by omega, by omega, by omega, by omega, by omega, by omega, by omega, by omega, by omega, ho⟩
theorem NR.start {w W W4 : World} {v : Value} {b : List UInt8} {s : Rd.St} {cs : Array Value} (h : PR w W v b s) (hB : Below (W.alloc (.cells cs 31)).heap.size (W.alloc (.cells cs 31)) W4) (hs : Array Value) :
    NR w (W4.alloc (.cells hs 112)) (w.heap.size + 1) W.heap.size w.heap.size W4.heap.size v b s cs hs := by
  have h1 : w.heap.size + 1 < W.heap.size := h.rd.lt
  have h2 : W.heap.size + 1 ≤ W4.heap.size := by have := hB.size; simpa using this
  have hB1 : Below W.heap.size W (W.alloc (.cells cs 31)) := (Below.refl _ _).alloc (Nat.le_refl _) _
  have hB2 : Below W.heap.size W (W4.alloc (.cells hs 112)) := (hB1.trans (hB.mono (by simp))).alloc (by omega) _
  refine ⟨h.rd.keeps hB2.block, ?_, (hB2.block _ (by omega)).trans h.rz, heap_alloc_new W4 _, h.below.trans (hB2.mono h.below.size), h.bs.keeps hB2.block⟩
  rw [Below.heap_alloc W4 _ W.heap.size (by omega), hB.block W.heap.size (by simp)]
  exact heap_alloc_new W _
/-- Where what is read lies. -/
def LF (w : World) (g B R H : Nat) : Foot := fun x => w.heap.size ≤ x ∧ x ≠ g ∧ x ≠ B ∧ x ≠ R ∧ x ≠ H
theorem LF.moved {w W W' : World} {g B R H : Nat} {v : Value} {a' : Nat} {e' : Int} {lv : Value} {es : List Ent} (h : EsG W (LF w g B R H) 53 lv es) (hm : Moved W W' g v a' e') : EsG W' (LF w g B R H) 53 lv es := by
  rcases h with ⟨rfl, rfl⟩ | ⟨r, cap, cur, rfl, hr, hh, h1, h2, h3, h4⟩
  · exact .inl ⟨rfl, rfl⟩
  · refine .inr ⟨r, cap, cur, rfl, hr, (hm.2.block r (lt_of_at hh) (by simpa using hr.2.1)).trans hh, h1, h2, h3, ?_⟩
    have : ∀ {xs : List Value} {es : List Ent}, EsC W (fun b => LF w g B R H b ∧ b ≠ r) xs es → EsC W' (fun b => LF w g B R H b ∧ b ≠ r) xs es := by
      intro xs es h
      induction h with
      | nil => exact .nil
      | cons ht hd h ih =>
        exact .cons ht ⟨hd.rd.same fun k e n => hm.2.block k (hd.lt k e n) (by simpa using (hd.foot k e n).1.2.1), hd.foot, fun k e n => Nat.lt_of_lt_of_le (hd.lt k e n) hm.2.size, thaw_frame hd.thaw fun k e n => hm.2.block k (hd.lt k e n) (by simpa using (hd.foot k e n).1.2.1)⟩ ih
    exact this h4
theorem LF.put {w W : World} {g B R H : Nat} {lv : Value} {es : List Ent} (h : EsG W (LF w g B R H) 53 lv es) (i : Nat) (y : Value) : EsG (W.setCell ⟨B, i, none⟩ y) (LF w g B R H) 53 lv es :=
  h.frame fun b hb => Below.heap_setCell _ _ _ _ (by simpa using hb.2.2.1)
/-- What Read tells. -/
def ReadP (w : World) (x : Nt) (ok : Bool) (r : Ending) (w' : World) : Prop :=
  ∃ lv dv, r = .returned (.tuple #[ntv (if ok then x else Rd.zeroN) lv dv, .int .i64 (if ok then 0 else 5)]) ∧ NtA w' (fun p => w.heap.size ≤ p) lv dv (if ok then x else Rd.zeroN) ∧ Below w.heap.size w w'
theorem NtA.zero (w : World) (S : Foot) : NtA w S (.slice none 0 0) (.slice none 0 0) Rd.zeroN :=
  ⟨EsR.nil _ _, ⟨(OB.nil w 0 5).rd, (fun g e _ => by cases e), (fun g e _ => by cases e), (fun b off c e => by cases e)⟩, by decide, by decide, by decide, by decide, by decide, by decide⟩
theorem readP_no {w w' : World} {x : Nt} {ok : Bool} (h : ok = false) (hB : Below w.heap.size w w') : ReadP w x ok (.returned (.tuple #[.agg zN, .int .i64 5])) w' := by
  subst h
  exact ⟨.slice none 0 0, .slice none 0 0, rfl, NtA.zero _ _, hB⟩
theorem readP_yes {w w' : World} {x : Nt} {ok : Bool} {lv dv : Value} (h : ok = true) (hx : NtA w' (fun p => w.heap.size ≤ p) lv dv x) (hB : Below w.heap.size w w') : ReadP w x ok (.returned (.tuple #[ntv x lv dv, .int .i64 0])) w' := by
  subst h
  exact ⟨lv, dv, rfl, hx, hB⟩
theorem wpList_load31 {ops : Array Oper} {rest : List Oper} {o : Oper} {a : Act} {w : World} {Q : Exit → Act → World → Prop} {B : Nat} {cs : Array Value} (hw : Region.wanted o (yielded ops a.tmps) = true) (x : Operand) (ho : o.op = .load 31 x)
    (hx : a.eval x = .pointer (some ⟨B, 0, none⟩)) (h : w.heap[B]? = some (.cells cs 31)) (hs : cs.size = 9) (k : wpList Try.prog ops Q rest (a.put o.dst (.agg cs)) w) : wpList Try.prog ops Q (o :: rest) a w := by
  unfold wpList
  rw [if_pos hw]
  exact .inl (wp_load_row 31 x ho B hx 31 cs (0, 0) _ h Try.underlying31 rfl (show _ = some cs.size by rw [hs]; kernel_rfl) k)
theorem results_cell_tmp {fn : Func} {p q : Tmp} {ty : TypeId} (h : fn.results = #[.cell p ty, .tmp q]) (tmps : Array Value) (w : World) (g : Nat) (t : TypeId) (cs : Array Value) (fr : Nat × Nat) (d : TypeDesc) (x : Value)
    (hp : tmps.getD p undef = .pointer (some ⟨g, 0, none⟩)) (hq : tmps.getD q undef = x) (hg : w.heap[g]? = some (.cells cs t fr))
    (hd : (match d with | .struct _ | .array _ _ => true | _ => false) = true) (hu : Try.prog.underlying ty = some d) (hi : (Try.prog.info? ty).map (·.size) = some cs.size) :
    (results fn tmps).run Try.prog w = .ok (.tuple #[.agg cs, x]) w := by
  have hp' : tmps[p]?.getD undef = .pointer (some ⟨g, 0, none⟩) := by simpa using hp
  have hq' : tmps[q]?.getD undef = x := by simpa using hq
  have hl := run_loadVar_row (P := Try.prog) w g t ty cs fr d hg hu (by cases d <;> first | rfl | exact hd) hi
  simp [results, h, hp', hq', asAddr, hl]
theorem stored131 (W1 : World) (b : Bool) (q : Addr) : ∃ W2, Hid ((W1.alloc (.cells #[.bool false, .pointer none] 131)).setRow W1.heap.size #[.bool b, .pointer (some q)] = W2) ∧ W2.heap[W1.heap.size]? = some (.cells #[.bool b, .pointer (some q)] 131) ∧ Below W1.heap.size W1 W2 := by
  refine ⟨_, Lib.hid rfl, setRow_heap _ _ _ _ _ _ (heap_alloc_new W1 _), ⟨rfl, rfl, rfl, by simp [World.setRow], fun k hk => by rw [setRow_other _ _ _ _ (by omega), Below.heap_alloc W1 _ k hk]⟩⟩
theorem Rd.es_step {b : List UInt8} {s0 s1 s2 : Rd.St} {i n : Nat} {l : List UInt8} (h1 : Form.small b (Rd.es b s0 i).2.1 (Rd.es b s0 i).2.2 18446744073709551615 = (n, s1)) (h2 : Form.txt b s1.1 s1.2 3000 = (l, s2)) : Rd.es b s0 (i + 1) = ((Rd.es b s0 i).1 ++ [(n, l)], s2) := by
  show ((Rd.es b s0 i).1 ++ [(Rd.en b (Rd.es b s0 i).2).1], (Rd.en b (Rd.es b s0 i).2).2) = _
  unfold Rd.en
  rw [show Form.small b (Rd.es b s0 i).2.1 (Rd.es b s0 i).2.2 Rd.MX = (n, s1) from h1]
  dsimp only
  rw [h2]
theorem NtA.of_list {w W : World} {g B R H : Nat} {k t r i a c : Nat} {y : Bool} {L : List Ent} {lv : Value} (h : EsG W (LF w g B R H) 53 lv L) (hk : k < 256) (ht : t < 2 ^ 64) (hr : r < 2 ^ 64) (hi : i < 2 ^ 64) (ha : a < 2 ^ 64) (hc : c < 2 ^ 64) :
    NtA W (LF w g B R H) lv (.slice none 0 0) ⟨k, t, r, i, a, c, y, L, []⟩ :=
  ⟨h.rd, ⟨(OB.nil W 0 5).rd, (fun g e _ => by cases e), (fun g e _ => by cases e), (fun b off c e => by cases e)⟩, hk, ht, hr, hi, ha, hc⟩
theorem NtA.of_data {w W : World} {g B R H : Nat} {k t r i a c : Nat} {y : Bool} {D : List UInt8} {dv : Value} (h : DatA W (LF w g B R H) dv D) (hk : k < 256) (ht : t < 2 ^ 64) (hr : r < 2 ^ 64) (hi : i < 2 ^ 64) (ha : a < 2 ^ 64) (hc : c < 2 ^ 64) :
    NtA W (LF w g B R H) (.slice none 0 0) dv ⟨k, t, r, i, a, c, y, [], D⟩ :=
  ⟨EsR.nil _ _, h, hk, ht, hr, hi, ha, hc⟩
theorem LF.data {w W' : World} {g B R H N : Nat} {v : Value} {t : List UInt8} (h : OB W' N 5 v t) (hN : N ≤ W'.heap.size) (h0 : w.heap.size ≤ N) (hg : g < N) (hB : B < N) (hR : R < N) (hH : H < N) : DatA W' (LF w g B R H) v t :=
  (DatA.of_ob h).mono fun b _ hb => by
    have hb' : N ≤ b := hb
    exact ⟨by omega, by omega, by omega, by omega, by omega⟩
theorem setRow_sameLF (w W : World) (g B R H : Nat) (cs : Array Value) : SameOn (LF w g B R H) W (W.setRow R cs) := fun b hb => setRow_other _ _ _ _ hb.2.2.2.1
theorem setCell_sameLF (w W : World) (g B R H i : Nat) (y : Value) : SameOn (LF w g B R H) W (W.setCell ⟨B, i, none⟩ y) := fun b hb => Below.heap_setCell _ _ _ _ (by simpa using hb.2.2.1)
theorem NR.end_ {w W : World} {g B R H : Nat} {v : Value} {b : List UInt8} {s : Rd.St} {cs hs : Array Value} (h : NR w W g B R H v b s cs hs) (P : Pl w g B R H v) (ds : Array Value) : Below w.heap.size w (W.setRow R ds) ∧ (W.setRow R ds).heap[R]? = some (.cells ds 31) := by
  have h1 : Below w.heap.size W (W.setRow R ds) := ⟨rfl, rfl, rfl, by simp [World.setRow], fun k hk => setRow_other _ _ _ _ (by have := P.R0; omega)⟩
  exact ⟨h.below.trans h1, setRow_heap _ _ _ _ _ _ h.rz⟩
theorem setCell_nil {w : World} {g R H : Nat} (W : World) (B i : Nat) (y : Value) : EsG (W.setCell ⟨B, i, none⟩ y) (LF w g B R H) 53 (.slice none 0 0) [] := .inl ⟨rfl, rfl⟩
theorem NR.own {w W W' : World} {g B R H : Nat} {v : Value} {b : List UInt8} {s : Rd.St} {cs hs : Array Value} (h : NR w W g B R H v b s cs hs) (P : Pl w g B R H v) {row : Option Nat} (hg : W.grownBy W' row) (hr : ∀ x, row = some x → LF w g B R H x) : NR w W' g B R H v b s cs hs := by
  have hn : ∀ x, (x = g ∨ x = B ∨ x = R ∨ x = H) → some x ≠ row := fun x hx e => by
    obtain ⟨_, h1, h2, h3, h4⟩ := hr x e.symm
    rcases hx with hx | hx | hx | hx
    · exact h1 hx
    · exact h2 hx
    · exact h3 hx
    · exact h4 hx
  refine ⟨h.rd.kept hg (hn g (.inl rfl)), (hg.block B (lt_of_at h.x) (hn B (.inr (.inl rfl)))).trans h.x, (hg.block R (lt_of_at h.rz) (hn R (.inr (.inr (.inl rfl))))).trans h.rz, (hg.block H (lt_of_at h.h) (hn H (.inr (.inr (.inr rfl))))).trans h.h,
    h.below.grown hg h.below.size (fun k e => (hr k e).1), ?_⟩
  cases row with
  | none => exact h.bs.keeps fun k hk => hg.block k hk (by simp)
  | some x => exact h.bs.grown hg (P.off x (hr x rfl).1)
theorem take_append {w W : World} {g B R H : Nat} {v : Value} {b : List UInt8} {s : Rd.St} {cs hs : Array Value} {pl pe : Option Addr} {nl cl ce t : Nat} {l : List UInt8} {es : List Ent} (h : NR w W g B R H v b s cs hs) (P : Pl w g B R H v) (hG : EsG W (LF w g B R H) 53 (.slice pl nl cl) es)
    (hd : DatA W (fun x => LF w g B R H x ∧ (Value.slice pl nl cl).ownBlock ≠ some x) (.slice pe l.length ce) l) (ht : t < 2 ^ 64) (hl : es.length ≤ 1000) :
    ∃ p n c W', (Builtin.append_ #[28, 28] 28 #[.slice pl nl cl, .slice (some ⟨W.heap.size, 0, none⟩) 1 1]).run Try.prog (W.alloc (.cells #[.int .u64 (t : Int), .slice pe l.length ce] 53)) = .ok (.slice p n c) W' ∧ NR w W' g B R H v b s cs hs ∧ EsG W' (LF w g B R H) 53 (.slice p n c) (es ++ [(t, l)]) := by
  have hk : Keeps W (W.alloc (.cells #[.int .u64 (t : Int), .slice pe l.length ce] 53)) := (Keeps.refl W).alloc _
  have hlf : LF w g B R H (W.alloc (.cells #[.int .u64 (t : Int), .slice pe l.length ce] 53)).heap.size := by
    have h1 := h.below.size
    have h2 : g < W.heap.size := lt_of_at h.rd
    have h3 := lt_of_at h.x
    have h4 := lt_of_at h.rz
    have h5 := lt_of_at h.h
    rw [heap_alloc_size]
    exact ⟨by omega, by omega, by omega, by omega, by omega⟩
  obtain ⟨v', W', hr, h1, h2, _, _⟩ := run_append_esg (P := Try.prog) (ty := 28) (c := 1) (S' := LF w g B R H) helE (hG.keeps hk) (EsC.cons ht (hd.keeps hk) .nil) (.inr ⟨⟨W.heap.size, 0, none⟩, rfl, ent_cells (EntAt.new W t _)⟩) (by unfold maxLen; simp; omega) (by simp; omega) (fun _ h => h) hlf
  obtain ⟨p, c, rfl⟩ := h1.form
  exact ⟨p, _, c, W', hr, (h.keep ((Below.refl _ _).alloc (Nat.le_refl _) _)).own P h2 (fun x e => (hG.foot x e).1), h1⟩
theorem LF.data2 {w W W' : World} {g B R H : Nat} {v lv : Value} {t : List UInt8} {es : List Ent} (h : OB W' W.heap.size 5 v t) (hN : W.heap.size ≤ W'.heap.size) (h0 : w.heap.size ≤ W.heap.size) (hg : g < W.heap.size) (hB : B < W.heap.size) (hR : R < W.heap.size) (hH : H < W.heap.size)
    (hG : EsG W (LF w g B R H) 53 lv es) : DatA W' (fun x => LF w g B R H x ∧ lv.ownBlock ≠ some x) v t :=
  (DatA.of_ob h).mono fun b _ hb => by
    have hb' : W.heap.size ≤ b := hb
    exact ⟨⟨by omega, by omega, by omega, by omega, by omega⟩, fun e => by have := (hG.foot b e).2; omega⟩
/-- A call of a Go function, as one step of a region that draws. -/
theorem step_enter {P : Program} {ops : Array Oper} {o : Oper} {a : Act} {w : World} {K : Act → World → Prop} {Q : Exit → Act → World → Prop} {E : Prop} (hg : o.guard = none) (f : FuncId) {fn : Func} (hf : P.funcs[f]? = some fn) (hn : (fn.name == "runtime.NumGoroutine") = false) (hb : fn.body.isNone = false) (az : Array Operand) (ts : Array TypeId)
    (hop : o.op = .call { callee := .value (.func f), args := az, argTypes := ts }) (args : Array Value) (hargs : az.map a.eval = args) {R : Ending → World → Prop} (hc : Calls P f args w R) (hK : ∀ e w', R e w' → ∃ v, e = .returned v ∧ K (a.put o.dst v) w') :
    if Region.wanted o (yielded ops a.tmps) = true then Oper.wp P o a w K Q else E := by
  have hw : Region.wanted o (yielded ops a.tmps) = true := by simp [Region.wanted, hg]
  rw [if_pos hw]
  subst hargs
  have hrun : (execOp a.eval o).run P w = .ok (.enter f (az.map a.eval)) w := by
    have hn' : ¬ fn.name = "runtime.NumGoroutine" := by simpa using hn
    have hb' : ¬ fn.body = none := fun e => by rw [e] at hb; cases hb
    unfold execOp
    simp [hop, resolve, invoke, Act.eval, Deferred.ofValue, callFunc, hf, hn', hb']
  unfold Oper.wp
  rw [hrun, Oper.upon_enter]
  refine Calls.mono hc fun e w' he => ?_
  obtain ⟨v, rfl, hk⟩ := hK e w' he
  exact hk
/-- append, its run known, as one step of a region that draws. -/
theorem step_append_eq {P : Program} {ops : Array Oper} {o : Oper} {a : Act} {w w' : World} {K : Act → World → Prop} {Q : Exit → Act → World → Prop} {E : Prop} (hg : o.guard = none) (s x : Operand) (t : TypeId)
    (hop : o.op = .call { callee := .builtin .append, args := #[s, x], argTypes := #[t, t] }) {v y v' : Value} (hs : a.eval s = v) (hx : a.eval x = y) (hr : (Builtin.append_ #[t, t] o.type #[v, y]).run P w = .ok v' w') (hK : K (a.put o.dst v') w') :
    if Region.wanted o (yielded ops a.tmps) = true then Oper.wp P o a w K Q else E := by
  have hw : Region.wanted o (yielded ops a.tmps) = true := by simp [Region.wanted, hg]
  rw [if_pos hw]
  unfold Oper.wp execOp
  simp only [hop, resolve, invoke, builtin, Sem.run_bind, Sem.run_pure, Result.andThen_ok, List.map_toArray, List.map_cons, List.map_nil, hs, hx, hr]
  exact hK
theorem take3 {α : Type} {x n : α} {s : Rd.St} {a : Nat} {e : Int} (h : (x, s) = (n, a, e)) : x = n ∧ s.1 = a ∧ s.2 = e := by cases h; exact ⟨rfl, rfl, rfl⟩
theorem zN_one : zN.all (·.oneCell') = true := by simp [zN, Value.oneCell']
end Go.Proofs.Yteellfgiejnigaa
