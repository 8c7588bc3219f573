/- U3: N6, N7, B0, By, Bd, Bl, N8, N10, N9. -/
import Derived.Test.YteellfgiejnigaaQbL3
import Derived.Test.YteellfgiejnigaaQbU1
import Derived.Test.YteellfgiejnigaaQbU2a
import Derived.Test.YteellfgiejnigaaQbU2b
import Derived.Test.YteellfgiejnigaaQbU2c
import Derived.Test.YteellfgiejnigaaQbU2d
import Derived.Test.YteellfgiejnigaaQbV1
import Derived.Deep.RegionWith
namespace Go.Proofs.Yteellfgiejnigaa
open Go.ChangeShapes Go.WideShapes Go.ChangeAt Go.RowKit
set_option linter.unusedVariables false
theorem DatA.grown {w w' : World} {S : Foot} {d : Value} {t : List UInt8} {row : Option Nat} (h : DatA w S d t) (hg : w.grownBy w' row) (hd : ∀ b, S b → row ≠ some b) : DatA w' S d t :=
  ⟨h.rd.same fun g e n => hg.block g (h.lt g e n) (fun q => hd g (h.foot g e n) q.symm), h.foot, fun g e n => Nat.lt_of_lt_of_le (h.lt g e n) hg.size, thaw_frame h.thaw fun g e n => hg.block g (h.lt g e n) (fun q => hd g (h.foot g e n) q.symm)⟩
set_option maxRecDepth 100000 in
set_option maxHeartbeats 800000 in
theorem text2_w (base : Nat) (v tv : Value) (l t : List UInt8) (S : Foot) (w : World) (ho : OB w base 5 v l) (ht : DatA w S tv t) (hd : ∀ b, S b → v.ownBlock ≠ some b) (hl : l.length ≤ 900000) (htl : t.length ≤ 1000000) (hb : base ≤ w.heap.size) :
    Calls Try.prog 71 #[v, tv] w fun e w' => ∃ p k c, e = .returned (.slice p k c) ∧ k = (l ++ Form.text t).length ∧ OB w' base 5 (.slice p k c) (l ++ Form.text t) ∧ w.grownBy w' v.ownBlock ∧ Near w v (.slice p k c) := by
  have Hn := Lib.hid (nat2_w base v l t.length w ho (by omega) (by omega) hb)
  have Ht := Lib.hid ht
  have Hd := Lib.hid hd
  have hl10 : (l ++ Form.nat t.length).length ≤ 900010 := by rw [List.length_append]; have := Form.nat_len10 (n := t.length) (by omega); omega
  have Hl10 := Lib.hid hl10
  obtain ⟨p0, c0, rfl⟩ := ho.form
  obtain ⟨tp, tc, rfl⟩ : ∃ p c, tv = .slice p t.length c := by obtain ⟨p, c, e, _⟩ := ht.rd; exact ⟨p, c, e⟩
  have hw : IntKind.u64.wrap (t.length : Int) = (t.length : Int) := IntWalk.u64_in _ (by omega)
  clear ho ht hl10 hd
  go_enter Try.func71, Try.ntmps71
  go_wp2_with (first
    | (go_at_call 69; with_reducible refine (Hn.out).mono ?_; rintro e w1 ⟨p, k, c, rfl, hk, ho1, hg1, hn1⟩; have Hk := Lib.hid hk; have Ho := Lib.hid ho1; have Hg := Lib.hid hg1; have HN := Lib.hid hn1; have Htw := Lib.hid (Ht.out.grown hg1 Hd.out); clear hk ho1 hg1 hn1)
    | (refine wpList_append_bytes_at rfl (.tmp 9) (.tmp 10) 29 rfl hel rfl (by have := Ho.out; rw [Hk.out] at this ⊢; exact this) rfl Htw.out.rd (by have := Hl10.out; omega) (Nat.le_trans hb Hg.out.size) ?_; intro p1 n1 c1 w2 hn1 ho2 hg2 hn2; have Hfin := Lib.hid (And.intro hn1 (And.intro ho2 (And.intro (grown_near Hg.out hg2 HN.out) (HN.out.trans hn2 Hg.out.size)))); clear hn1 ho2 hg2 hn2))
  go_ret
  have h := Hfin.out
  rw [List.append_assoc] at h
  exact ⟨_, _, _, rfl, h⟩
set_option maxRecDepth 100000 in
theorem flag2_w (base : Nat) (v : Value) (l : List UInt8) (f : Bool) (w : World) (ho : OB w base 5 v l) (hl : l.length ≤ 1000000) (hb : base ≤ w.heap.size) :
    Calls Try.prog 70 #[v, .bool f] w fun e w' => ∃ p k c, e = .returned (.slice p k c) ∧ k = (l ++ Form.flag f).length ∧ OB w' base 5 (.slice p k c) (l ++ Form.flag f) ∧ w.grownBy w' v.ownBlock ∧ Near w v (.slice p k c) := by
  have H := Lib.hid ho
  obtain ⟨p0, c0, rfl⟩ := ho.form
  clear ho
  cases f
  · have Hone := Lib.hid (RdB_one w 5 0 (by decide))
    have HO1 := Lib.hid (H.out.alloc (.cells #[.int .u8 0] 5))
    go_enter Try.func70, Try.ntmps70
    go_wp2_with (refine wpList_append_bytes_at rfl (.tmp 9) (.tmp 10) 29 rfl hel rfl HO1.out rfl Hone.out (by simp; omega) (by simp; omega) ?_; intro p1 n1 c1 w1 hn1 ho1 hg1 hnr; have Hn1 := Lib.hid hn1; have Ho1 := Lib.hid ho1; have Hg1 := Lib.hid (grown_of_alloc hg1); have HN1 := Lib.hid (near_of_alloc hnr); clear hn1 ho1 hg1 hnr)
    go_ret
    exact ⟨p1, n1, c1, rfl, Hn1.out, Ho1.out, Hg1.out, HN1.out⟩
  · have Hone := Lib.hid (RdB_one w 5 1 (by decide))
    have HO1 := Lib.hid (H.out.alloc (.cells #[.int .u8 1] 5))
    go_enter Try.func70, Try.ntmps70
    go_wp2_with (refine wpList_append_bytes_at rfl (.tmp 6) (.tmp 7) 29 rfl hel rfl HO1.out rfl Hone.out (by simp; omega) (by simp; omega) ?_; intro p1 n1 c1 w1 hn1 ho1 hg1 hnr; have Hn1 := Lib.hid hn1; have Ho1 := Lib.hid ho1; have Hg1 := Lib.hid (grown_of_alloc hg1); have HN1 := Lib.hid (near_of_alloc hnr); clear hn1 ho1 hg1 hnr)
    go_ret
    exact ⟨p1, n1, c1, rfl, Hn1.out, Ho1.out, Hg1.out, HN1.out⟩
end Go.Proofs.Yteellfgiejnigaa
/- The walk of notes.Bytes. -/
namespace Go.Proofs.Yteellfgiejnigaa
open Go.ChangeShapes Go.WideShapes Go.ChangeAt Go.RowKit
set_option linter.unusedVariables false
theorem nmay_w (x : Nt) (lv dv : Value) (S : Foot) (w : World) (h : NtA w S lv dv x) (hn : x.list.length ≤ 1000000) : Calls Try.prog 46 #[ntv x lv dv] w fun e w' => e = .returned (.bool (mayN x)) ∧ Below w.heap.size w w' := by
  obtain ⟨k1, t1, r1, i1, a1, c1, y1, L1, D1⟩ := x
  by_cases hk : k1 = 0 ∨ 7 < k1
  · exact may_k0_w k1 t1 r1 i1 a1 c1 y1 L1 D1 lv dv S w h.l h.d.rd hn hk
  · have h7 : k1 = 1 ∨ k1 = 2 ∨ k1 = 3 ∨ k1 = 4 ∨ k1 = 5 ∨ k1 = 6 ∨ k1 = 7 := by omega
    rcases h7 with rfl | rfl | rfl | rfl | rfl | rfl | rfl
    · exact may_k1_w t1 r1 i1 a1 c1 y1 L1 D1 lv dv S w h.l h.d.rd hn
    · exact may_k2_w t1 r1 i1 a1 c1 y1 L1 D1 lv dv S w h.l h.d.rd hn
    · exact may_k3_w t1 r1 i1 a1 c1 y1 L1 D1 lv dv S w h.l h.d.rd hn
    · exact may_k4_w t1 r1 i1 a1 c1 y1 L1 D1 lv dv S w h.l h.d.rd hn
    · exact may_k5_w t1 r1 i1 a1 c1 y1 L1 D1 lv dv S w h.l h.d.rd hn
    · exact may_k6_w t1 r1 i1 a1 c1 y1 L1 D1 lv dv S w h.l h.d.rd hn
    · exact may_k7_w t1 r1 i1 a1 c1 y1 L1 D1 lv dv S w h.l h.d.rd hn

/-- The numbers that a kind has. -/
def natsN (fs : List (Bool × Nat)) : List UInt8 := fs.flatMap fun f => if f.1 then Form.nat f.2 else []
def entsN (L : List Ent) : List UInt8 := L.flatMap fun e => Form.nat e.1 ++ Form.text e.2
theorem natsN_snoc (fs : List (Bool × Nat)) (b : Bool) (n : Nat) : natsN (fs ++ [(b, n)]) = natsN fs ++ if b then Form.nat n else [] := by unfold natsN; simp
theorem entsN_snoc (L : List Ent) (e : Ent) : entsN (L ++ [e]) = entsN L ++ (Form.nat e.1 ++ Form.text e.2) := by unfold entsN; simp
theorem natsN_len (fs : List (Bool × Nat)) (h : ∀ f ∈ fs, f.2 < 2 ^ 64) : (natsN fs).length ≤ 10 * fs.length := by
  induction fs with
  | nil => simp [natsN]
  | cons f fs ih =>
    have h1 := ih fun g hg => h g (List.mem_cons_of_mem _ hg)
    have h2 := Form.nat_len10 (h f (List.mem_cons_self ..))
    unfold natsN at h1 ⊢
    rw [List.flatMap_cons, List.length_append, List.length_cons]
    split <;> simp_all <;> omega
theorem entsN_len (L : List Ent) (h : ∀ e ∈ L, e.1 < 2 ^ 64 ∧ e.2.length ≤ 3000) : (entsN L).length ≤ 3020 * L.length := by
  induction L with
  | nil => simp [entsN]
  | cons e L ih =>
    have h1 := ih fun g hg => h g (List.mem_cons_of_mem _ hg)
    obtain ⟨h2, h3⟩ := h e (List.mem_cons_self ..)
    have h4 := Form.nat_len10 h2
    have h5 := Form.nat_len10 (n := e.2.length) (by omega)
    have h6 : (Form.text e.2).length = (Form.nat e.2.length).length + e.2.length := by unfold Form.text; rw [List.length_append]
    unfold entsN at h1 ⊢
    rw [List.flatMap_cons, List.length_append, List.length_cons, List.length_append]
    omega
/-- The bytes so far, in a row made since. -/
def AccP (B : Nat) (l : List UInt8) (y : Value) (W : World) : Prop := ∃ p n c, y = .slice p n c ∧ n = l.length ∧ OB W B 5 (.slice p n c) l
theorem AccP.keeps {B : Nat} {l : List UInt8} {y : Value} {W W' : World} (h : AccP B l y W) (hk : Keeps W W') : AccP B l y W' := by
  obtain ⟨p, n, c, e, hn, h⟩ := h; exact ⟨p, n, c, e, hn, h.keeps hk⟩
theorem hz115 : ((Try.prog.info? 115).bind (·.zero)).map Value.cells = some #[.bool false, .int .u64 0] := by kernel_rfl
theorem stored115 (W1 : World) (b : Bool) (n : Nat) : ∃ W2, Hid ((W1.alloc (.cells #[.bool false, .int .u64 0] 115)).setRow W1.heap.size #[.bool b, .int .u64 (n : Int)] = W2) ∧ W2.heap[W1.heap.size]? = some (.cells #[.bool b, .int .u64 (n : Int)] 115) ∧ Below W1.heap.size W1 W2 := by
  refine ⟨_, Lib.hid rfl, setRow_heap _ _ _ _ _ _ (heap_alloc_new W1 _), ⟨rfl, rfl, rfl, by simp [World.setRow], fun k hk => by rw [setRow_other _ _ _ _ (by omega), Below.heap_alloc W1 _ k hk]⟩⟩
/-- What is carried through the making of a form: the bytes, and that all that was there ahead of w4 stays. -/
structure Mk (w4 W : World) (v : Value) (l : List UInt8) : Prop where
  ob : OB W w4.heap.size 5 v l
  below : Below w4.heap.size w4 W
theorem Mk.step {w4 W W' : World} {v v' : Value} {l l' : List UInt8} (h : Mk w4 W v l) (ho : OB W' w4.heap.size 5 v' l') (hg : W.grownBy W' v.ownBlock) : Mk w4 W' v' l' := ⟨ho, h.below.trans (below_own h.ob hg h.below.size)⟩
theorem Mk.keep {w4 W W' : World} {v : Value} {l : List UInt8} (h : Mk w4 W v l) (hB : Below W.heap.size W W') : Mk w4 W' v l := ⟨h.ob.keeps hB.block, h.below.trans (hB.mono h.below.size)⟩
theorem mk_nat {w4 W : World} {v : Value} {l : List UInt8} {n : Nat} (h : Mk w4 W v l) (hn : n < 2 ^ 64) (hl : l.length ≤ 1000000) :
    Calls Try.prog 69 #[v, .int .u64 (n : Int)] W fun e w' => ∃ p k c, e = .returned (.slice p k c) ∧ k = (l ++ Form.nat n).length ∧ Mk w4 w' (.slice p k c) (l ++ Form.nat n) ∧ W.grownBy w' v.ownBlock :=
  (nat2_w w4.heap.size v l n W h.ob hn hl h.below.size).mono fun e w' ⟨p, k, c, he, hk, ho, hg, _⟩ => ⟨p, k, c, he, hk, h.step ho hg, hg⟩
theorem mk_text {w4 W : World} {v tv : Value} {l t : List UInt8} {s : Nat} (h : Mk w4 W v l) (hd : DatA W (fun b => b < s) tv t) (hs : s ≤ w4.heap.size) (hl : l.length ≤ 900000) (ht : t.length ≤ 1000000) :
    Calls Try.prog 71 #[v, tv] W fun e w' => ∃ p k c, e = .returned (.slice p k c) ∧ k = (l ++ Form.text t).length ∧ Mk w4 w' (.slice p k c) (l ++ Form.text t) :=
  (text2_w w4.heap.size v tv l t (fun b => b < s) W h.ob hd (fun b hb q => by have h2 : b < s := hb; have := (h.ob.lt b q).1; omega) hl ht h.below.size).mono fun e w' ⟨p, k, c, he, hk, ho, hg, _⟩ => ⟨p, k, c, he, hk, h.step ho hg⟩
theorem ent_grown {W W' : World} {N : Nat} {a d : Value} {row : Option Nat} (h : W.heap[N]? = some (.cells #[a, d] 53)) (hg : W.grownBy W' row) (hn : row ≠ some N) : W'.cell? ⟨N, 1, none⟩ = some d := by
  rw [cell_of_row _ _ _ _ _ _ ((hg.block N (Array.getElem?_eq_some_iff.1 h).1 (fun q => hn q.symm)).trans h)]; rfl
end Go.Proofs.Yteellfgiejnigaa
/- The walk of notes.Bytes (case 0). -/
namespace Go.Proofs.Yteellfgiejnigaa
open Go.ChangeShapes Go.WideShapes Go.ChangeAt Go.RowKit
set_option linter.unusedVariables false
set_option maxRecDepth 100000 in
set_option maxHeartbeats 12800000 in
theorem bytes_000_w (k1 t1 r1 i1 a1 c1 : Nat) (y1 : Bool) (L1 : List Ent) (D1 : List UInt8) (fr fi fa fc : Bool) (lv dv : Value) (S : Foot) (w : World) (h : NtA w S lv dv ⟨k1, t1, r1, i1, a1, c1, y1, L1, D1⟩) (hL : L1.length ≤ 16) (hLd : ∀ e ∈ L1, e.2.length ≤ 3000) (hD : D1.length ≤ 524288)
    (hM : ∀ W, NtA W S lv dv ⟨k1, t1, r1, i1, a1, c1, y1, L1, D1⟩ → Calls Try.prog 46 #[.agg #[.int .u8 (k1 : Int), .int .u64 (t1 : Int), .int .u64 (r1 : Int), .int .u64 (i1 : Int), .int .u64 (a1 : Int), .int .u64 (c1 : Int), .bool y1, lv, dv]] W fun e w' => e = .returned (.bool true) ∧ Below W.heap.size W w')
    (hF : ∀ W, Calls Try.prog 68 #[.int .u8 (k1 : Int)] W fun r w' => r = .returned (.agg #[.bool fr, .bool fi, .bool fa, .bool fc, .bool false, .bool false, .bool false]) ∧ Below W.heap.size W w') :
    Calls Try.prog 18 #[.agg #[.int .u8 (k1 : Int), .int .u64 (t1 : Int), .int .u64 (r1 : Int), .int .u64 (i1 : Int), .int .u64 (a1 : Int), .int .u64 (c1 : Int), .bool y1, lv, dv]] w fun r w' => ∃ p n c, r = .returned (.tuple #[.slice p n c, .int .i64 0]) ∧ n = (Form.nat k1 ++ Form.nat t1 ++ natsN [(fr, r1), (fi, i1), (fa, a1), (fc, c1)]).length ∧ OB w' w.heap.size 5 (.slice p n c) (Form.nat k1 ++ Form.nat t1 ++ natsN [(fr, r1), (fi, i1), (fa, a1), (fc, c1)]) ∧ Below w.heap.size w w' := by
  obtain ⟨⟨pl, cl, rfl⟩, ⟨pd, cd, rfl⟩⟩ := h.forms
  have hk1 : k1 < 256 := h.kind
  have ht1 : t1 < 2 ^ 64 := h.term
  have hr1 : r1 < 2 ^ 64 := h.round
  have hi1 : i1 < 2 ^ 64 := h.index
  have ha1 : a1 < 2 ^ 64 := h.at_
  have hc1 : c1 < 2 ^ 64 := h.commit
  dsimp only at *
  have hB1 := (Below.refl w.heap.size w).alloc (Nat.le_refl _) (.cells #[.int .u8 (k1 : Int), .int .u64 (t1 : Int), .int .u64 (r1 : Int), .int .u64 (i1 : Int), .int .u64 (a1 : Int), .int .u64 (c1 : Int), .bool y1, .slice pl L1.length cl, .slice pd D1.length cd] 31)
  have HB1 := Lib.hid hB1
  have H0 := Lib.hid (h.mono (S' := fun b => b < w.heap.size) fun b hb _ => hb)
  have HMa := Lib.hid (hM _ (h.keeps hB1.block))
  have HF := Lib.hid hF
  have HLd := Lib.hid hLd
  have Hnew := Lib.hid (heap_alloc_new w (.cells #[.int .u8 (k1 : Int), .int .u64 (t1 : Int), .int .u64 (r1 : Int), .int .u64 (i1 : Int), .int .u64 (a1 : Int), .int .u64 (c1 : Int), .bool y1, .slice pl L1.length cl, .slice pd D1.length cd] 31))
  have e18 : IntKind.u64.wrap (k1 : Int) = (k1 : Int) := IntWalk.u64_in _ (by omega)
  have e68 : IntKind.u64.wrap (L1.length : Int) = (L1.length : Int) := IntWalk.u64_in _ (by omega)
  clear h hB1 hM hF hLd
  go_enter Try.func18, Try.ntmps18
  go_wp2_with (first
    | (refine wpList_load_row rfl 31 (.tmp 1) rfl _ rfl _ _ _ _ Hnew.out Try.underlying31 rfl (show _ = some 9 by kernel_rfl) ?_)
    | (go_at_call 46; go_loud (refine (HMa.out).mono ?_; rintro e w2 ⟨rfl, hB⟩; have HB2 := Lib.hid (HB1.out.trans (hB.mono HB1.out.size)); have Hbx := Lib.hid ((hB.block w.heap.size (by simp)).trans Hnew.out); have x0 := (hB.cell (p := ⟨w.heap.size, 0, none⟩) (by simp)).trans (show _ = some (.int .u8 (k1 : Int)) by simp); clear hB HMa))
    | (go_at_call 68; go_loud (refine (HF.out _).mono ?_; rintro e w3 ⟨rfl, hB⟩; have HB3 := Lib.hid (HB2.out.trans (hB.mono HB2.out.size)); have Hbx3 := Lib.hid ((hB.block w.heap.size (Array.getElem?_eq_some_iff.1 Hbx.out).1).trans Hbx.out); clear hB HF)))
  have Hz4 := Lib.hid (heap_alloc_new w3 (.cells #[.bool fr, .bool fi, .bool fa, .bool fc, .bool false, .bool false, .bool false] 112))
  have HB4 := Lib.hid (HB3.out.alloc HB3.out.size (.cells #[.bool fr, .bool fi, .bool fa, .bool fc, .bool false, .bool false, .bool false] 112))
  have Hbx4 := Lib.hid ((Below.heap_alloc w3 (.cells #[.bool fr, .bool fi, .bool fa, .bool fc, .bool false, .bool false, .bool false] 112) w.heap.size (Array.getElem?_eq_some_iff.1 Hbx3.out).1).trans Hbx3.out)
  have hw3 : w3.heap.size < (w3.alloc (.cells #[.bool fr, .bool fi, .bool fa, .bool fc, .bool false, .bool false, .bool false] 112)).heap.size := by simp
  have hw0 : w.heap.size < (w3.alloc (.cells #[.bool fr, .bool fi, .bool fa, .bool fc, .bool false, .bool false, .bool false] 112)).heap.size := by have := HB3.out.size; simp; omega
  generalize hW4 : w3.alloc (.cells #[.bool fr, .bool fi, .bool fa, .bool fc, .bool false, .bool false, .bool false] 112) = w4 at *
  clear hW4
  have X0 := Lib.hid (fun (W : World) (hB : Below w4.heap.size w4 W) => (show W.cell? ⟨w.heap.size, 0, none⟩ = some (.int .u8 (k1 : Int)) from by rw [hB.cell (p := ⟨w.heap.size, 0, none⟩) hw0, cell_of_row _ _ _ _ _ _ Hbx4.out]; rfl))
  have X1 := Lib.hid (fun (W : World) (hB : Below w4.heap.size w4 W) => (show W.cell? ⟨w.heap.size, 1, none⟩ = some (.int .u64 (t1 : Int)) from by rw [hB.cell (p := ⟨w.heap.size, 1, none⟩) hw0, cell_of_row _ _ _ _ _ _ Hbx4.out]; rfl))
  have X2 := Lib.hid (fun (W : World) (hB : Below w4.heap.size w4 W) => (show W.cell? ⟨w.heap.size, 2, none⟩ = some (.int .u64 (r1 : Int)) from by rw [hB.cell (p := ⟨w.heap.size, 2, none⟩) hw0, cell_of_row _ _ _ _ _ _ Hbx4.out]; rfl))
  have X3 := Lib.hid (fun (W : World) (hB : Below w4.heap.size w4 W) => (show W.cell? ⟨w.heap.size, 3, none⟩ = some (.int .u64 (i1 : Int)) from by rw [hB.cell (p := ⟨w.heap.size, 3, none⟩) hw0, cell_of_row _ _ _ _ _ _ Hbx4.out]; rfl))
  have X4 := Lib.hid (fun (W : World) (hB : Below w4.heap.size w4 W) => (show W.cell? ⟨w.heap.size, 4, none⟩ = some (.int .u64 (a1 : Int)) from by rw [hB.cell (p := ⟨w.heap.size, 4, none⟩) hw0, cell_of_row _ _ _ _ _ _ Hbx4.out]; rfl))
  have X5 := Lib.hid (fun (W : World) (hB : Below w4.heap.size w4 W) => (show W.cell? ⟨w.heap.size, 5, none⟩ = some (.int .u64 (c1 : Int)) from by rw [hB.cell (p := ⟨w.heap.size, 5, none⟩) hw0, cell_of_row _ _ _ _ _ _ Hbx4.out]; rfl))
  have X6 := Lib.hid (fun (W : World) (hB : Below w4.heap.size w4 W) => (show W.cell? ⟨w.heap.size, 6, none⟩ = some (.bool y1) from by rw [hB.cell (p := ⟨w.heap.size, 6, none⟩) hw0, cell_of_row _ _ _ _ _ _ Hbx4.out]; rfl))
  have X7 := Lib.hid (fun (W : World) (hB : Below w4.heap.size w4 W) => (show W.cell? ⟨w.heap.size, 7, none⟩ = some (.slice pl L1.length cl) from by rw [hB.cell (p := ⟨w.heap.size, 7, none⟩) hw0, cell_of_row _ _ _ _ _ _ Hbx4.out]; rfl))
  have X8 := Lib.hid (fun (W : World) (hB : Below w4.heap.size w4 W) => (show W.cell? ⟨w.heap.size, 8, none⟩ = some (.slice pd D1.length cd) from by rw [hB.cell (p := ⟨w.heap.size, 8, none⟩) hw0, cell_of_row _ _ _ _ _ _ Hbx4.out]; rfl))
  have G0 := Lib.hid (fun (W : World) (hB : Below w4.heap.size w4 W) => (show W.cell? ⟨w3.heap.size, 0, none⟩ = some (.bool fr) from by rw [hB.cell (p := ⟨w3.heap.size, 0, none⟩) hw3, cell_of_row _ _ _ _ _ _ Hz4.out]; rfl))
  have G1 := Lib.hid (fun (W : World) (hB : Below w4.heap.size w4 W) => (show W.cell? ⟨w3.heap.size, 1, none⟩ = some (.bool fi) from by rw [hB.cell (p := ⟨w3.heap.size, 1, none⟩) hw3, cell_of_row _ _ _ _ _ _ Hz4.out]; rfl))
  have G2 := Lib.hid (fun (W : World) (hB : Below w4.heap.size w4 W) => (show W.cell? ⟨w3.heap.size, 2, none⟩ = some (.bool fa) from by rw [hB.cell (p := ⟨w3.heap.size, 2, none⟩) hw3, cell_of_row _ _ _ _ _ _ Hz4.out]; rfl))
  have G3 := Lib.hid (fun (W : World) (hB : Below w4.heap.size w4 W) => (show W.cell? ⟨w3.heap.size, 3, none⟩ = some (.bool fc) from by rw [hB.cell (p := ⟨w3.heap.size, 3, none⟩) hw3, cell_of_row _ _ _ _ _ _ Hz4.out]; rfl))
  have G4 := Lib.hid (fun (W : World) (hB : Below w4.heap.size w4 W) => (show W.cell? ⟨w3.heap.size, 4, none⟩ = some (.bool false) from by rw [hB.cell (p := ⟨w3.heap.size, 4, none⟩) hw3, cell_of_row _ _ _ _ _ _ Hz4.out]; rfl))
  have G5 := Lib.hid (fun (W : World) (hB : Below w4.heap.size w4 W) => (show W.cell? ⟨w3.heap.size, 5, none⟩ = some (.bool false) from by rw [hB.cell (p := ⟨w3.heap.size, 5, none⟩) hw3, cell_of_row _ _ _ _ _ _ Hz4.out]; rfl))
  have G6 := Lib.hid (fun (W : World) (hB : Below w4.heap.size w4 W) => (show W.cell? ⟨w3.heap.size, 6, none⟩ = some (.bool false) from by rw [hB.cell (p := ⟨w3.heap.size, 6, none⟩) hw3, cell_of_row _ _ _ _ _ _ Hz4.out]; rfl))
  apply RegT.wp_region_T rfl 92 7 rfl (by kernel_rfl) (RegT.Under w4.heap.size) (RegT.Under.refl _) (RegT.Under.trans _)
  · apply RegT.T_pure (v := .pointer (some ⟨w.heap.size, 0, none⟩)) rfl rfl rfl
    · intro W hR; clear hR; go_simp
    simp only [List.set_cons_succ, List.set_cons_zero, Nat.reduceAdd]
    apply RegT.T_pure (v := .int .u8 (k1 : Int)) rfl rfl rfl
    · intro W hR
      have hc := X0.out W ((Below.refl w4.heap.size w4).drew.trans (hR (Nat.le_refl _)).1)
      clear hR
      go_simp
    simp only [List.set_cons_succ, List.set_cons_zero, Nat.reduceAdd]
    apply RegT.T_pure (v := .int .u64 (k1 : Int)) rfl rfl rfl
    · intro W hR; clear hR; go_simp
    simp only [List.set_cons_succ, List.set_cons_zero, Nat.reduceAdd]
    apply RegT.T_predC rfl rfl rfl 6 (AccP w4.heap.size (Form.nat k1)) (RegT.Under.grow _) (fun y x z hR h => h.keeps hR.block)
    · intro W hR hf
      have hsz := (hR (Nat.le_refl _)).2
      have Hc := Lib.hid (nat2_w w4.heap.size (.slice none 0 0) [] k1 W (OB.nil _ _ _) (by omega) (by decide) hsz)
      clear hR hf
      go_simp
      exact RegT.OpOK_enter Hc.out (fun e w' ⟨p, k, c, he, hk, ho, hg, _⟩ => ⟨_, he, ⟨p, k, c, rfl, hk, ho⟩, below_grown hg _ (Nat.le_refl _) (fun k e => by cases e)⟩)
    intro v3
    simp only [List.set_cons_succ, List.set_cons_zero, Nat.reduceAdd]
    apply RegT.T_pure (v := .pointer (some ⟨w.heap.size, 1, none⟩)) rfl rfl rfl
    · intro W hR; clear hR; go_simp
    simp only [List.set_cons_succ, List.set_cons_zero, Nat.reduceAdd]
    apply RegT.T_pure (v := .int .u64 (t1 : Int)) rfl rfl rfl
    · intro W hR
      have hc := X1.out W ((Below.refl w4.heap.size w4).drew.trans (hR (Nat.le_refl _)).1)
      clear hR
      go_simp
    simp only [List.set_cons_succ, List.set_cons_zero, Nat.reduceAdd]
    apply RegT.T_write rfl rfl rfl none (AccP w4.heap.size (Form.nat k1 ++ Form.nat t1)) (fun y x z hR h => h.keeps hR.block)
    · intro W hR hf
      have hsz := (hR (Nat.le_refl _)).2
      obtain ⟨p, n, c, rfl, hn, ho⟩ : AccP w4.heap.size (Form.nat k1) v3 W := hf _ (.head _) (by kernel_rfl) (.inr rfl)
      have h10 := Form.nat_len10 (n := k1) (by omega)
      have Hc := Lib.hid (nat2_w w4.heap.size _ _ t1 W ho ht1 (by omega) hsz)
      have Ho := Lib.hid ho
      clear hR hf ho hn h10
      go_simp
      exact RegT.OpOK_enter Hc.out (fun e w' ⟨p, k, c, he, hk, ho, hg, _⟩ => ⟨_, he, ⟨p, k, c, rfl, hk, ho⟩, fun _ => ⟨below_own Ho.out hg hsz, Nat.le_trans hsz hg.size⟩⟩)
    intro v6
    simp only [List.set_cons_succ, List.set_cons_zero, Nat.reduceAdd]
    refine RegT.T_tail (fun W5 hR hf => ?_)
    have hy : AccP w4.heap.size (Form.nat k1 ++ Form.nat t1) v6 W5 := hf _ (.head _) (.inl rfl)
    obtain ⟨p6, n6, c6, rfl, hn6, ho6⟩ := hy
    have HA := Lib.hid (show Mk w4 W5 (.slice p6 n6 c6) (Form.nat k1 ++ Form.nat t1) from ⟨ho6, ((Below.refl w4.heap.size w4).drew.trans (hR (Nat.le_refl _)).1)⟩)
    have Hn6 := Lib.hid hn6
    clear hR hf ho6 hn6
    simp only [List.drop_succ_cons, List.drop_zero]
    have xW5_0 := X0.out W5 HA.out.below
    have xW5_1 := X1.out W5 HA.out.below
    have xW5_2 := X2.out W5 HA.out.below
    have xW5_3 := X3.out W5 HA.out.below
    have xW5_4 := X4.out W5 HA.out.below
    have xW5_5 := X5.out W5 HA.out.below
    have xW5_6 := X6.out W5 HA.out.below
    have xW5_7 := X7.out W5 HA.out.below
    have xW5_8 := X8.out W5 HA.out.below
    have gW5_0 := G0.out W5 HA.out.below
    have gW5_1 := G1.out W5 HA.out.below
    have gW5_2 := G2.out W5 HA.out.below
    have gW5_3 := G3.out W5 HA.out.below
    have gW5_4 := G4.out W5 HA.out.below
    have gW5_5 := G5.out W5 HA.out.below
    have gW5_6 := G6.out W5 HA.out.below
    go_wp2
    have HN := Lib.hid (heap_alloc_new W5 (.cells #[.bool fr, .int .u64 (r1 : Int), .bool fi, .int .u64 (i1 : Int), .bool fa, .int .u64 (a1 : Int), .bool fc, .int .u64 (c1 : Int)] 115))
    have HA5 := Lib.hid (HA.out.keep ((Below.refl W5.heap.size W5).alloc (Nat.le_refl _) (.cells #[.bool fr, .int .u64 (r1 : Int), .bool fi, .int .u64 (i1 : Int), .bool fa, .int .u64 (a1 : Int), .bool fc, .int .u64 (c1 : Int)] 115)))
    have HO5 := Lib.hid (fun g (e : (Value.slice p6 n6 c6).ownBlock = some g) => (show g < W5.heap.size from (HA.out.ob.lt g e).2))
    generalize hW6 : W5.alloc (.cells #[.bool fr, .int .u64 (r1 : Int), .bool fi, .int .u64 (i1 : Int), .bool fa, .int .u64 (a1 : Int), .bool fc, .int .u64 (c1 : Int)] 115) = W6 at *
    have hN6 : W5.heap.size < W6.heap.size := by rw [← hW6]; simp
    clear hW6
    obtain ⟨fs, hfs⟩ : ∃ fs : List (Bool × Nat), fs = [(fr, r1), (fi, i1), (fa, a1), (fc, c1)] := ⟨_, rfl⟩
    have Hfs := Lib.hid hfs
    have Hat := Lib.hid (show ∀ k, k < 4 → ∃ b n, fs[k]? = some (b, n) ∧ n < 2 ^ 64 ∧ (#[.bool fr, .int .u64 (r1 : Int), .bool fi, .int .u64 (i1 : Int), .bool fa, .int .u64 (a1 : Int), .bool fc, .int .u64 (c1 : Int)] : Array Value)[k * 2]? = some (.bool b) ∧ (#[.bool fr, .int .u64 (r1 : Int), .bool fi, .int .u64 (i1 : Int), .bool fa, .int .u64 (a1 : Int), .bool fc, .int .u64 (c1 : Int)] : Array Value)[k * 2 + 1]? = some (.int .u64 (n : Int)) from by
      intro k hk
      have h4 : k = 0 ∨ k = 1 ∨ k = 2 ∨ k = 3 := by omega
      rcases h4 with rfl | rfl | rfl | rfl
      · exact ⟨fr, r1, by rw [hfs]; rfl, hr1, rfl, rfl⟩
      · exact ⟨fi, i1, by rw [hfs]; rfl, hi1, rfl, rfl⟩
      · exact ⟨fa, a1, by rw [hfs]; rfl, ha1, rfl, rfl⟩
      · exact ⟨fc, c1, by rw [hfs]; rfl, hc1, rfl, rfl⟩)
    have Hall := Lib.hid (show ∀ f ∈ fs, f.2 < 2 ^ 64 from by rw [hfs]; intro f hf; simp at hf; rcases hf with rfl | rfl | rfl | rfl <;> assumption)
    have Hlen4 := Lib.hid (show fs.length = 4 by rw [hfs]; rfl)
    have Hp20 := Lib.hid (show (Form.nat k1 ++ Form.nat t1).length ≤ 20 by rw [List.length_append]; have h1 := Form.nat_len10 (n := k1) (by omega); have h2 := Form.nat_len10 ht1; omega)
    clear hfs HA xW5_0 xW5_1 xW5_2 xW5_3 xW5_4 xW5_5 xW5_6 xW5_7 xW5_8 gW5_0 gW5_1 gW5_2 gW5_3 gW5_4 gW5_5 gW5_6
    go_loopw [5, 45] (fun v i wr => ∃ (k : Nat) (p : Option Addr) (n c : Nat), k ≤ 4 ∧ i = .int .i64 (k : Int) ∧ v = .slice p n c ∧ Hid (n = (Form.nat k1 ++ Form.nat t1 ++ natsN (fs.take k)).length) ∧ Hid (Mk w4 wr (.slice p n c) (Form.nat k1 ++ Form.nat t1 ++ natsN (fs.take k))) ∧ Hid (wr.heap[W5.heap.size]? = some (.cells #[.bool fr, .int .u64 (r1 : Int), .bool fi, .int .u64 (i1 : Int), .bool fa, .int .u64 (a1 : Int), .bool fc, .int .u64 (c1 : Int)] 115)) ∧ Hid (∀ g, (Value.slice p n c).ownBlock = some g → g ≠ W5.heap.size)) (fun _ i _ => 4 - (intOf i).toNat)
    case atStart => exact ⟨0, p6, n6, c6, by omega, rfl, rfl, Lib.hid (by rw [Hn6.out]; simp [natsN]), Lib.hid (by simpa [natsN] using HA5.out), HN, Lib.hid (fun g e => by have := HO5.out g e; omega)⟩
    case round =>
      obtain ⟨k, p, n, c, hk, rfl, rfl, Hn, HA, HNb, HO⟩ := hrel
      clear HA5 HO5 HN
      by_cases hlt : k < 4
      · obtain ⟨b, m, hfk, hm, hc0, hc1'⟩ := Hat.out k hlt
        have hra : wr.rangeAt W5.heap.size (k * 2) [.bool b, .int .u64 (m : Int)] := fun j u hu => by
          rw [cell_of_row _ _ _ _ _ _ HNb.out]
          match j, hu with
          | 0, hu => cases hu; exact hc0
          | 1, hu => cases hu; exact hc1'
        have Hra := Lib.hid hra
        have Htk := Lib.hid (show fs.take (k + 1) = fs.take k ++ [(b, m)] by rw [List.take_add_one, hfk]; rfl)
        have hlen : (Form.nat k1 ++ Form.nat t1 ++ natsN (fs.take k)).length ≤ 60 := by
          have h1 := natsN_len (fs.take k) fun f hf => Hall.out f (List.mem_of_mem_take hf)
          have h2 := Hp20.out
          rw [List.length_append]
          rw [List.length_take] at h1
          have := Hlen4.out
          omega
        have Hlen := Lib.hid hlen
        have hnb : W5.heap.size < wr.heap.size := (Array.getElem?_eq_some_iff.1 HNb.out).1
        obtain ⟨W7, HW7, he7, hB7⟩ := stored115 wr b m
        have HZ := Lib.hid (heap_alloc_new wr (.cells #[.bool false, .int .u64 0] 115))
        have z0 : W7.cell? ⟨wr.heap.size, 0, none⟩ = some (.bool b) := by rw [cell_of_row _ _ _ _ _ _ he7]; rfl
        have z1 : W7.cell? ⟨wr.heap.size, 1, none⟩ = some (.int .u64 (m : Int)) := by rw [cell_of_row _ _ _ _ _ _ he7]; rfl
        have HA7 := Lib.hid (HA.out.keep hB7)
        have HNb7 := Lib.hid ((hB7.block _ hnb).trans HNb.out)
        have hone : (#[Value.bool b, .int .u64 (m : Int)]).all (·.oneCell') = true := by simp [Value.oneCell']
        have Hone := Lib.hid hone
        have Hs7 := Lib.hid (Nat.lt_of_lt_of_le hnb hB7.size)
        clear hra hfk hc0 hc1' hlen he7 hB7 hone
        cases b with
        | false =>
          go_wp2_with (first
            | (refine wpList_load_mid rfl 115 (.tmp 47) rfl _ _ rfl [.bool false, .int .u64 (m : Int)] _ Hra.out Try.underlying115 rfl (show _ = some 2 by kernel_rfl) ?_)
            | (refine wpList_alloc_zero rfl 115 rfl _ hz115 ?_)
            | (refine wpList_store_rowTo rfl 115 (.tmp 7) (.tmp 48) rfl rfl _ #[.bool false, .int .u64 (m : Int)] rfl rfl 115 #[.bool false, .int .u64 0] HZ.out (show _ = some 2 by kernel_rfl) rfl Hone.out ?_; rw [HW7.out]))
          go_roundw
          case rel => exact ⟨k + 1, p, n, c, by omega, by go_num, rfl, Lib.hid (by rw [Htk.out, natsN_snoc, if_neg (by simp), List.append_nil]; exact Hn.out), Lib.hid (by rw [Htk.out, natsN_snoc, if_neg (by simp), List.append_nil]; exact HA7.out), HNb7, HO⟩
          case measure => simp [intOf]; omega
        | true =>
          go_wp2_with (first
            | (refine wpList_load_mid rfl 115 (.tmp 47) rfl _ _ rfl [.bool true, .int .u64 (m : Int)] _ Hra.out Try.underlying115 rfl (show _ = some 2 by kernel_rfl) ?_)
            | (refine wpList_alloc_zero rfl 115 rfl _ hz115 ?_)
            | (refine wpList_store_rowTo rfl 115 (.tmp 7) (.tmp 48) rfl rfl _ #[.bool true, .int .u64 (m : Int)] rfl rfl 115 #[.bool false, .int .u64 0] HZ.out (show _ = some 2 by kernel_rfl) rfl Hone.out ?_; rw [HW7.out])
            | (go_at_call 69; go_loud (refine (nat2_w w4.heap.size _ _ m W7 HA7.out.ob hm (by have := Hlen.out; omega) HA7.out.below.size).mono ?_; rintro e W8 ⟨p8, n8, c8, rfl, hn8, ho8, hg8, hnear⟩; have HA8 := Lib.hid (HA7.out.step ho8 hg8); have Hn8 := Lib.hid hn8; have HNb8 := Lib.hid ((hg8.block _ Hs7.out (fun e => HO.out _ e.symm rfl)).trans HNb7.out); have HO8 := Lib.hid (fun g (e : (Value.slice p8 n8 c8).ownBlock = some g) => (show g ≠ W5.heap.size from by
                rcases hnear with h | ⟨g', h, hg'⟩
                · exact HO.out g (h.symm.trans e)
                · rw [h] at e; cases e; have := Hs7.out; omega)); clear hn8 ho8 hg8 hnear)))
          go_roundw
          case rel => exact ⟨k + 1, p8, n8, c8, by omega, by go_num, rfl, Lib.hid (by rw [Htk.out, natsN_snoc, if_pos rfl, ← List.append_assoc]; exact Hn8.out), Lib.hid (by rw [Htk.out, natsN_snoc, if_pos rfl, ← List.append_assoc]; exact HA8.out), HNb8, HO8⟩
          case measure => simp [intOf]; omega
      · have hk4 : k = 4 := by omega
        subst hk4
        have htk : fs.take 4 = [(fr, r1), (fi, i1), (fa, a1), (fc, c1)] := by rw [Hfs.out]; rfl
        rw [htk] at HA Hn
        have Hlen := Lib.hid (show (Form.nat k1 ++ Form.nat t1 ++ natsN [(fr, r1), (fi, i1), (fa, a1), (fc, c1)]).length ≤ 60 by
          have h1 := natsN_len fs Hall.out
          have h2 := Hp20.out
          rw [Hfs.out] at h1
          rw [List.length_append]
          simp only [List.length_cons, List.length_nil] at h1
          omega)
        clear htk HNb HO Hat Hall Hlen4 Hp20 Hfs hN6
        generalize hpre : Form.nat k1 ++ Form.nat t1 ++ natsN [(fr, r1), (fi, i1), (fa, a1), (fc, c1)] = pre at *
        have Hpre := Lib.hid hpre
        clear hpre
        have xw_0 := X0.out wr HA.out.below
        have xw_1 := X1.out wr HA.out.below
        have xw_2 := X2.out wr HA.out.below
        have xw_3 := X3.out wr HA.out.below
        have xw_4 := X4.out wr HA.out.below
        have xw_5 := X5.out wr HA.out.below
        have xw_6 := X6.out wr HA.out.below
        have xw_7 := X7.out wr HA.out.below
        have xw_8 := X8.out wr HA.out.below
        have gw_4 := G4.out wr HA.out.below
        have gw_5 := G5.out wr HA.out.below
        have gw_6 := G6.out wr HA.out.below
        go_wp2
        go_ret2
        exact ⟨_, _, _, rfl, by rw [Hpre.out]; exact Hn.out, by rw [Hpre.out]; exact OB.lower HA.out.ob HB4.out.size, HB4.out.trans (HA.out.below.mono HB4.out.size)⟩
  · rfl
  · kernel_rfl
end Go.Proofs.Yteellfgiejnigaa
/- The walk of notes.Bytes (case y). -/
namespace Go.Proofs.Yteellfgiejnigaa
open Go.ChangeShapes Go.WideShapes Go.ChangeAt Go.RowKit
set_option linter.unusedVariables false
set_option maxRecDepth 100000 in
set_option maxHeartbeats 12800000 in
theorem bytes_y_w (k1 t1 r1 i1 a1 c1 : Nat) (y1 : Bool) (L1 : List Ent) (D1 : List UInt8) (fr fi fa fc : Bool) (lv dv : Value) (S : Foot) (w : World) (h : NtA w S lv dv ⟨k1, t1, r1, i1, a1, c1, y1, L1, D1⟩) (hL : L1.length ≤ 16) (hLd : ∀ e ∈ L1, e.2.length ≤ 3000) (hD : D1.length ≤ 524288)
    (hM : ∀ W, NtA W S lv dv ⟨k1, t1, r1, i1, a1, c1, y1, L1, D1⟩ → Calls Try.prog 46 #[.agg #[.int .u8 (k1 : Int), .int .u64 (t1 : Int), .int .u64 (r1 : Int), .int .u64 (i1 : Int), .int .u64 (a1 : Int), .int .u64 (c1 : Int), .bool y1, lv, dv]] W fun e w' => e = .returned (.bool true) ∧ Below W.heap.size W w')
    (hF : ∀ W, Calls Try.prog 68 #[.int .u8 (k1 : Int)] W fun r w' => r = .returned (.agg #[.bool fr, .bool fi, .bool fa, .bool fc, .bool true, .bool false, .bool false]) ∧ Below W.heap.size W w') :
    Calls Try.prog 18 #[.agg #[.int .u8 (k1 : Int), .int .u64 (t1 : Int), .int .u64 (r1 : Int), .int .u64 (i1 : Int), .int .u64 (a1 : Int), .int .u64 (c1 : Int), .bool y1, lv, dv]] w fun r w' => ∃ p n c, r = .returned (.tuple #[.slice p n c, .int .i64 0]) ∧ n = (Form.nat k1 ++ Form.nat t1 ++ natsN [(fr, r1), (fi, i1), (fa, a1), (fc, c1)] ++ (Form.flag y1)).length ∧ OB w' w.heap.size 5 (.slice p n c) (Form.nat k1 ++ Form.nat t1 ++ natsN [(fr, r1), (fi, i1), (fa, a1), (fc, c1)] ++ (Form.flag y1)) ∧ Below w.heap.size w w' := by
  obtain ⟨⟨pl, cl, rfl⟩, ⟨pd, cd, rfl⟩⟩ := h.forms
  have hk1 : k1 < 256 := h.kind
  have ht1 : t1 < 2 ^ 64 := h.term
  have hr1 : r1 < 2 ^ 64 := h.round
  have hi1 : i1 < 2 ^ 64 := h.index
  have ha1 : a1 < 2 ^ 64 := h.at_
  have hc1 : c1 < 2 ^ 64 := h.commit
  dsimp only at *
  have hB1 := (Below.refl w.heap.size w).alloc (Nat.le_refl _) (.cells #[.int .u8 (k1 : Int), .int .u64 (t1 : Int), .int .u64 (r1 : Int), .int .u64 (i1 : Int), .int .u64 (a1 : Int), .int .u64 (c1 : Int), .bool y1, .slice pl L1.length cl, .slice pd D1.length cd] 31)
  have HB1 := Lib.hid hB1
  have H0 := Lib.hid (h.mono (S' := fun b => b < w.heap.size) fun b hb _ => hb)
  have HMa := Lib.hid (hM _ (h.keeps hB1.block))
  have HF := Lib.hid hF
  have HLd := Lib.hid hLd
  have Hnew := Lib.hid (heap_alloc_new w (.cells #[.int .u8 (k1 : Int), .int .u64 (t1 : Int), .int .u64 (r1 : Int), .int .u64 (i1 : Int), .int .u64 (a1 : Int), .int .u64 (c1 : Int), .bool y1, .slice pl L1.length cl, .slice pd D1.length cd] 31))
  have e18 : IntKind.u64.wrap (k1 : Int) = (k1 : Int) := IntWalk.u64_in _ (by omega)
  have e68 : IntKind.u64.wrap (L1.length : Int) = (L1.length : Int) := IntWalk.u64_in _ (by omega)
  clear h hB1 hM hF hLd
  go_enter Try.func18, Try.ntmps18
  go_wp2_with (first
    | (refine wpList_load_row rfl 31 (.tmp 1) rfl _ rfl _ _ _ _ Hnew.out Try.underlying31 rfl (show _ = some 9 by kernel_rfl) ?_)
    | (go_at_call 46; go_loud (refine (HMa.out).mono ?_; rintro e w2 ⟨rfl, hB⟩; have HB2 := Lib.hid (HB1.out.trans (hB.mono HB1.out.size)); have Hbx := Lib.hid ((hB.block w.heap.size (by simp)).trans Hnew.out); have x0 := (hB.cell (p := ⟨w.heap.size, 0, none⟩) (by simp)).trans (show _ = some (.int .u8 (k1 : Int)) by simp); clear hB HMa))
    | (go_at_call 68; go_loud (refine (HF.out _).mono ?_; rintro e w3 ⟨rfl, hB⟩; have HB3 := Lib.hid (HB2.out.trans (hB.mono HB2.out.size)); have Hbx3 := Lib.hid ((hB.block w.heap.size (Array.getElem?_eq_some_iff.1 Hbx.out).1).trans Hbx.out); clear hB HF)))
  have Hz4 := Lib.hid (heap_alloc_new w3 (.cells #[.bool fr, .bool fi, .bool fa, .bool fc, .bool true, .bool false, .bool false] 112))
  have HB4 := Lib.hid (HB3.out.alloc HB3.out.size (.cells #[.bool fr, .bool fi, .bool fa, .bool fc, .bool true, .bool false, .bool false] 112))
  have Hbx4 := Lib.hid ((Below.heap_alloc w3 (.cells #[.bool fr, .bool fi, .bool fa, .bool fc, .bool true, .bool false, .bool false] 112) w.heap.size (Array.getElem?_eq_some_iff.1 Hbx3.out).1).trans Hbx3.out)
  have hw3 : w3.heap.size < (w3.alloc (.cells #[.bool fr, .bool fi, .bool fa, .bool fc, .bool true, .bool false, .bool false] 112)).heap.size := by simp
  have hw0 : w.heap.size < (w3.alloc (.cells #[.bool fr, .bool fi, .bool fa, .bool fc, .bool true, .bool false, .bool false] 112)).heap.size := by have := HB3.out.size; simp; omega
  generalize hW4 : w3.alloc (.cells #[.bool fr, .bool fi, .bool fa, .bool fc, .bool true, .bool false, .bool false] 112) = w4 at *
  clear hW4
  have X0 := Lib.hid (fun (W : World) (hB : Below w4.heap.size w4 W) => (show W.cell? ⟨w.heap.size, 0, none⟩ = some (.int .u8 (k1 : Int)) from by rw [hB.cell (p := ⟨w.heap.size, 0, none⟩) hw0, cell_of_row _ _ _ _ _ _ Hbx4.out]; rfl))
  have X1 := Lib.hid (fun (W : World) (hB : Below w4.heap.size w4 W) => (show W.cell? ⟨w.heap.size, 1, none⟩ = some (.int .u64 (t1 : Int)) from by rw [hB.cell (p := ⟨w.heap.size, 1, none⟩) hw0, cell_of_row _ _ _ _ _ _ Hbx4.out]; rfl))
  have X2 := Lib.hid (fun (W : World) (hB : Below w4.heap.size w4 W) => (show W.cell? ⟨w.heap.size, 2, none⟩ = some (.int .u64 (r1 : Int)) from by rw [hB.cell (p := ⟨w.heap.size, 2, none⟩) hw0, cell_of_row _ _ _ _ _ _ Hbx4.out]; rfl))
  have X3 := Lib.hid (fun (W : World) (hB : Below w4.heap.size w4 W) => (show W.cell? ⟨w.heap.size, 3, none⟩ = some (.int .u64 (i1 : Int)) from by rw [hB.cell (p := ⟨w.heap.size, 3, none⟩) hw0, cell_of_row _ _ _ _ _ _ Hbx4.out]; rfl))
  have X4 := Lib.hid (fun (W : World) (hB : Below w4.heap.size w4 W) => (show W.cell? ⟨w.heap.size, 4, none⟩ = some (.int .u64 (a1 : Int)) from by rw [hB.cell (p := ⟨w.heap.size, 4, none⟩) hw0, cell_of_row _ _ _ _ _ _ Hbx4.out]; rfl))
  have X5 := Lib.hid (fun (W : World) (hB : Below w4.heap.size w4 W) => (show W.cell? ⟨w.heap.size, 5, none⟩ = some (.int .u64 (c1 : Int)) from by rw [hB.cell (p := ⟨w.heap.size, 5, none⟩) hw0, cell_of_row _ _ _ _ _ _ Hbx4.out]; rfl))
  have X6 := Lib.hid (fun (W : World) (hB : Below w4.heap.size w4 W) => (show W.cell? ⟨w.heap.size, 6, none⟩ = some (.bool y1) from by rw [hB.cell (p := ⟨w.heap.size, 6, none⟩) hw0, cell_of_row _ _ _ _ _ _ Hbx4.out]; rfl))
  have X7 := Lib.hid (fun (W : World) (hB : Below w4.heap.size w4 W) => (show W.cell? ⟨w.heap.size, 7, none⟩ = some (.slice pl L1.length cl) from by rw [hB.cell (p := ⟨w.heap.size, 7, none⟩) hw0, cell_of_row _ _ _ _ _ _ Hbx4.out]; rfl))
  have X8 := Lib.hid (fun (W : World) (hB : Below w4.heap.size w4 W) => (show W.cell? ⟨w.heap.size, 8, none⟩ = some (.slice pd D1.length cd) from by rw [hB.cell (p := ⟨w.heap.size, 8, none⟩) hw0, cell_of_row _ _ _ _ _ _ Hbx4.out]; rfl))
  have G0 := Lib.hid (fun (W : World) (hB : Below w4.heap.size w4 W) => (show W.cell? ⟨w3.heap.size, 0, none⟩ = some (.bool fr) from by rw [hB.cell (p := ⟨w3.heap.size, 0, none⟩) hw3, cell_of_row _ _ _ _ _ _ Hz4.out]; rfl))
  have G1 := Lib.hid (fun (W : World) (hB : Below w4.heap.size w4 W) => (show W.cell? ⟨w3.heap.size, 1, none⟩ = some (.bool fi) from by rw [hB.cell (p := ⟨w3.heap.size, 1, none⟩) hw3, cell_of_row _ _ _ _ _ _ Hz4.out]; rfl))
  have G2 := Lib.hid (fun (W : World) (hB : Below w4.heap.size w4 W) => (show W.cell? ⟨w3.heap.size, 2, none⟩ = some (.bool fa) from by rw [hB.cell (p := ⟨w3.heap.size, 2, none⟩) hw3, cell_of_row _ _ _ _ _ _ Hz4.out]; rfl))
  have G3 := Lib.hid (fun (W : World) (hB : Below w4.heap.size w4 W) => (show W.cell? ⟨w3.heap.size, 3, none⟩ = some (.bool fc) from by rw [hB.cell (p := ⟨w3.heap.size, 3, none⟩) hw3, cell_of_row _ _ _ _ _ _ Hz4.out]; rfl))
  have G4 := Lib.hid (fun (W : World) (hB : Below w4.heap.size w4 W) => (show W.cell? ⟨w3.heap.size, 4, none⟩ = some (.bool true) from by rw [hB.cell (p := ⟨w3.heap.size, 4, none⟩) hw3, cell_of_row _ _ _ _ _ _ Hz4.out]; rfl))
  have G5 := Lib.hid (fun (W : World) (hB : Below w4.heap.size w4 W) => (show W.cell? ⟨w3.heap.size, 5, none⟩ = some (.bool false) from by rw [hB.cell (p := ⟨w3.heap.size, 5, none⟩) hw3, cell_of_row _ _ _ _ _ _ Hz4.out]; rfl))
  have G6 := Lib.hid (fun (W : World) (hB : Below w4.heap.size w4 W) => (show W.cell? ⟨w3.heap.size, 6, none⟩ = some (.bool false) from by rw [hB.cell (p := ⟨w3.heap.size, 6, none⟩) hw3, cell_of_row _ _ _ _ _ _ Hz4.out]; rfl))
  apply RegT.wp_region_T rfl 92 7 rfl (by kernel_rfl) (RegT.Under w4.heap.size) (RegT.Under.refl _) (RegT.Under.trans _)
  · apply RegT.T_pure (v := .pointer (some ⟨w.heap.size, 0, none⟩)) rfl rfl rfl
    · intro W hR; clear hR; go_simp
    simp only [List.set_cons_succ, List.set_cons_zero, Nat.reduceAdd]
    apply RegT.T_pure (v := .int .u8 (k1 : Int)) rfl rfl rfl
    · intro W hR
      have hc := X0.out W ((Below.refl w4.heap.size w4).drew.trans (hR (Nat.le_refl _)).1)
      clear hR
      go_simp
    simp only [List.set_cons_succ, List.set_cons_zero, Nat.reduceAdd]
    apply RegT.T_pure (v := .int .u64 (k1 : Int)) rfl rfl rfl
    · intro W hR; clear hR; go_simp
    simp only [List.set_cons_succ, List.set_cons_zero, Nat.reduceAdd]
    apply RegT.T_predC rfl rfl rfl 6 (AccP w4.heap.size (Form.nat k1)) (RegT.Under.grow _) (fun y x z hR h => h.keeps hR.block)
    · intro W hR hf
      have hsz := (hR (Nat.le_refl _)).2
      have Hc := Lib.hid (nat2_w w4.heap.size (.slice none 0 0) [] k1 W (OB.nil _ _ _) (by omega) (by decide) hsz)
      clear hR hf
      go_simp
      exact RegT.OpOK_enter Hc.out (fun e w' ⟨p, k, c, he, hk, ho, hg, _⟩ => ⟨_, he, ⟨p, k, c, rfl, hk, ho⟩, below_grown hg _ (Nat.le_refl _) (fun k e => by cases e)⟩)
    intro v3
    simp only [List.set_cons_succ, List.set_cons_zero, Nat.reduceAdd]
    apply RegT.T_pure (v := .pointer (some ⟨w.heap.size, 1, none⟩)) rfl rfl rfl
    · intro W hR; clear hR; go_simp
    simp only [List.set_cons_succ, List.set_cons_zero, Nat.reduceAdd]
    apply RegT.T_pure (v := .int .u64 (t1 : Int)) rfl rfl rfl
    · intro W hR
      have hc := X1.out W ((Below.refl w4.heap.size w4).drew.trans (hR (Nat.le_refl _)).1)
      clear hR
      go_simp
    simp only [List.set_cons_succ, List.set_cons_zero, Nat.reduceAdd]
    apply RegT.T_write rfl rfl rfl none (AccP w4.heap.size (Form.nat k1 ++ Form.nat t1)) (fun y x z hR h => h.keeps hR.block)
    · intro W hR hf
      have hsz := (hR (Nat.le_refl _)).2
      obtain ⟨p, n, c, rfl, hn, ho⟩ : AccP w4.heap.size (Form.nat k1) v3 W := hf _ (.head _) (by kernel_rfl) (.inr rfl)
      have h10 := Form.nat_len10 (n := k1) (by omega)
      have Hc := Lib.hid (nat2_w w4.heap.size _ _ t1 W ho ht1 (by omega) hsz)
      have Ho := Lib.hid ho
      clear hR hf ho hn h10
      go_simp
      exact RegT.OpOK_enter Hc.out (fun e w' ⟨p, k, c, he, hk, ho, hg, _⟩ => ⟨_, he, ⟨p, k, c, rfl, hk, ho⟩, fun _ => ⟨below_own Ho.out hg hsz, Nat.le_trans hsz hg.size⟩⟩)
    intro v6
    simp only [List.set_cons_succ, List.set_cons_zero, Nat.reduceAdd]
    refine RegT.T_tail (fun W5 hR hf => ?_)
    have hy : AccP w4.heap.size (Form.nat k1 ++ Form.nat t1) v6 W5 := hf _ (.head _) (.inl rfl)
    obtain ⟨p6, n6, c6, rfl, hn6, ho6⟩ := hy
    have HA := Lib.hid (show Mk w4 W5 (.slice p6 n6 c6) (Form.nat k1 ++ Form.nat t1) from ⟨ho6, ((Below.refl w4.heap.size w4).drew.trans (hR (Nat.le_refl _)).1)⟩)
    have Hn6 := Lib.hid hn6
    clear hR hf ho6 hn6
    simp only [List.drop_succ_cons, List.drop_zero]
    have xW5_0 := X0.out W5 HA.out.below
    have xW5_1 := X1.out W5 HA.out.below
    have xW5_2 := X2.out W5 HA.out.below
    have xW5_3 := X3.out W5 HA.out.below
    have xW5_4 := X4.out W5 HA.out.below
    have xW5_5 := X5.out W5 HA.out.below
    have xW5_6 := X6.out W5 HA.out.below
    have xW5_7 := X7.out W5 HA.out.below
    have xW5_8 := X8.out W5 HA.out.below
    have gW5_0 := G0.out W5 HA.out.below
    have gW5_1 := G1.out W5 HA.out.below
    have gW5_2 := G2.out W5 HA.out.below
    have gW5_3 := G3.out W5 HA.out.below
    have gW5_4 := G4.out W5 HA.out.below
    have gW5_5 := G5.out W5 HA.out.below
    have gW5_6 := G6.out W5 HA.out.below
    go_wp2
    have HN := Lib.hid (heap_alloc_new W5 (.cells #[.bool fr, .int .u64 (r1 : Int), .bool fi, .int .u64 (i1 : Int), .bool fa, .int .u64 (a1 : Int), .bool fc, .int .u64 (c1 : Int)] 115))
    have HA5 := Lib.hid (HA.out.keep ((Below.refl W5.heap.size W5).alloc (Nat.le_refl _) (.cells #[.bool fr, .int .u64 (r1 : Int), .bool fi, .int .u64 (i1 : Int), .bool fa, .int .u64 (a1 : Int), .bool fc, .int .u64 (c1 : Int)] 115)))
    have HO5 := Lib.hid (fun g (e : (Value.slice p6 n6 c6).ownBlock = some g) => (show g < W5.heap.size from (HA.out.ob.lt g e).2))
    generalize hW6 : W5.alloc (.cells #[.bool fr, .int .u64 (r1 : Int), .bool fi, .int .u64 (i1 : Int), .bool fa, .int .u64 (a1 : Int), .bool fc, .int .u64 (c1 : Int)] 115) = W6 at *
    have hN6 : W5.heap.size < W6.heap.size := by rw [← hW6]; simp
    clear hW6
    obtain ⟨fs, hfs⟩ : ∃ fs : List (Bool × Nat), fs = [(fr, r1), (fi, i1), (fa, a1), (fc, c1)] := ⟨_, rfl⟩
    have Hfs := Lib.hid hfs
    have Hat := Lib.hid (show ∀ k, k < 4 → ∃ b n, fs[k]? = some (b, n) ∧ n < 2 ^ 64 ∧ (#[.bool fr, .int .u64 (r1 : Int), .bool fi, .int .u64 (i1 : Int), .bool fa, .int .u64 (a1 : Int), .bool fc, .int .u64 (c1 : Int)] : Array Value)[k * 2]? = some (.bool b) ∧ (#[.bool fr, .int .u64 (r1 : Int), .bool fi, .int .u64 (i1 : Int), .bool fa, .int .u64 (a1 : Int), .bool fc, .int .u64 (c1 : Int)] : Array Value)[k * 2 + 1]? = some (.int .u64 (n : Int)) from by
      intro k hk
      have h4 : k = 0 ∨ k = 1 ∨ k = 2 ∨ k = 3 := by omega
      rcases h4 with rfl | rfl | rfl | rfl
      · exact ⟨fr, r1, by rw [hfs]; rfl, hr1, rfl, rfl⟩
      · exact ⟨fi, i1, by rw [hfs]; rfl, hi1, rfl, rfl⟩
      · exact ⟨fa, a1, by rw [hfs]; rfl, ha1, rfl, rfl⟩
      · exact ⟨fc, c1, by rw [hfs]; rfl, hc1, rfl, rfl⟩)
    have Hall := Lib.hid (show ∀ f ∈ fs, f.2 < 2 ^ 64 from by rw [hfs]; intro f hf; simp at hf; rcases hf with rfl | rfl | rfl | rfl <;> assumption)
    have Hlen4 := Lib.hid (show fs.length = 4 by rw [hfs]; rfl)
    have Hp20 := Lib.hid (show (Form.nat k1 ++ Form.nat t1).length ≤ 20 by rw [List.length_append]; have h1 := Form.nat_len10 (n := k1) (by omega); have h2 := Form.nat_len10 ht1; omega)
    clear hfs HA xW5_0 xW5_1 xW5_2 xW5_3 xW5_4 xW5_5 xW5_6 xW5_7 xW5_8 gW5_0 gW5_1 gW5_2 gW5_3 gW5_4 gW5_5 gW5_6
    go_loopw [5, 45] (fun v i wr => ∃ (k : Nat) (p : Option Addr) (n c : Nat), k ≤ 4 ∧ i = .int .i64 (k : Int) ∧ v = .slice p n c ∧ Hid (n = (Form.nat k1 ++ Form.nat t1 ++ natsN (fs.take k)).length) ∧ Hid (Mk w4 wr (.slice p n c) (Form.nat k1 ++ Form.nat t1 ++ natsN (fs.take k))) ∧ Hid (wr.heap[W5.heap.size]? = some (.cells #[.bool fr, .int .u64 (r1 : Int), .bool fi, .int .u64 (i1 : Int), .bool fa, .int .u64 (a1 : Int), .bool fc, .int .u64 (c1 : Int)] 115)) ∧ Hid (∀ g, (Value.slice p n c).ownBlock = some g → g ≠ W5.heap.size)) (fun _ i _ => 4 - (intOf i).toNat)
    case atStart => exact ⟨0, p6, n6, c6, by omega, rfl, rfl, Lib.hid (by rw [Hn6.out]; simp [natsN]), Lib.hid (by simpa [natsN] using HA5.out), HN, Lib.hid (fun g e => by have := HO5.out g e; omega)⟩
    case round =>
      obtain ⟨k, p, n, c, hk, rfl, rfl, Hn, HA, HNb, HO⟩ := hrel
      clear HA5 HO5 HN
      by_cases hlt : k < 4
      · obtain ⟨b, m, hfk, hm, hc0, hc1'⟩ := Hat.out k hlt
        have hra : wr.rangeAt W5.heap.size (k * 2) [.bool b, .int .u64 (m : Int)] := fun j u hu => by
          rw [cell_of_row _ _ _ _ _ _ HNb.out]
          match j, hu with
          | 0, hu => cases hu; exact hc0
          | 1, hu => cases hu; exact hc1'
        have Hra := Lib.hid hra
        have Htk := Lib.hid (show fs.take (k + 1) = fs.take k ++ [(b, m)] by rw [List.take_add_one, hfk]; rfl)
        have hlen : (Form.nat k1 ++ Form.nat t1 ++ natsN (fs.take k)).length ≤ 60 := by
          have h1 := natsN_len (fs.take k) fun f hf => Hall.out f (List.mem_of_mem_take hf)
          have h2 := Hp20.out
          rw [List.length_append]
          rw [List.length_take] at h1
          have := Hlen4.out
          omega
        have Hlen := Lib.hid hlen
        have hnb : W5.heap.size < wr.heap.size := (Array.getElem?_eq_some_iff.1 HNb.out).1
        obtain ⟨W7, HW7, he7, hB7⟩ := stored115 wr b m
        have HZ := Lib.hid (heap_alloc_new wr (.cells #[.bool false, .int .u64 0] 115))
        have z0 : W7.cell? ⟨wr.heap.size, 0, none⟩ = some (.bool b) := by rw [cell_of_row _ _ _ _ _ _ he7]; rfl
        have z1 : W7.cell? ⟨wr.heap.size, 1, none⟩ = some (.int .u64 (m : Int)) := by rw [cell_of_row _ _ _ _ _ _ he7]; rfl
        have HA7 := Lib.hid (HA.out.keep hB7)
        have HNb7 := Lib.hid ((hB7.block _ hnb).trans HNb.out)
        have hone : (#[Value.bool b, .int .u64 (m : Int)]).all (·.oneCell') = true := by simp [Value.oneCell']
        have Hone := Lib.hid hone
        have Hs7 := Lib.hid (Nat.lt_of_lt_of_le hnb hB7.size)
        clear hra hfk hc0 hc1' hlen he7 hB7 hone
        cases b with
        | false =>
          go_wp2_with (first
            | (refine wpList_load_mid rfl 115 (.tmp 47) rfl _ _ rfl [.bool false, .int .u64 (m : Int)] _ Hra.out Try.underlying115 rfl (show _ = some 2 by kernel_rfl) ?_)
            | (refine wpList_alloc_zero rfl 115 rfl _ hz115 ?_)
            | (refine wpList_store_rowTo rfl 115 (.tmp 7) (.tmp 48) rfl rfl _ #[.bool false, .int .u64 (m : Int)] rfl rfl 115 #[.bool false, .int .u64 0] HZ.out (show _ = some 2 by kernel_rfl) rfl Hone.out ?_; rw [HW7.out]))
          go_roundw
          case rel => exact ⟨k + 1, p, n, c, by omega, by go_num, rfl, Lib.hid (by rw [Htk.out, natsN_snoc, if_neg (by simp), List.append_nil]; exact Hn.out), Lib.hid (by rw [Htk.out, natsN_snoc, if_neg (by simp), List.append_nil]; exact HA7.out), HNb7, HO⟩
          case measure => simp [intOf]; omega
        | true =>
          go_wp2_with (first
            | (refine wpList_load_mid rfl 115 (.tmp 47) rfl _ _ rfl [.bool true, .int .u64 (m : Int)] _ Hra.out Try.underlying115 rfl (show _ = some 2 by kernel_rfl) ?_)
            | (refine wpList_alloc_zero rfl 115 rfl _ hz115 ?_)
            | (refine wpList_store_rowTo rfl 115 (.tmp 7) (.tmp 48) rfl rfl _ #[.bool true, .int .u64 (m : Int)] rfl rfl 115 #[.bool false, .int .u64 0] HZ.out (show _ = some 2 by kernel_rfl) rfl Hone.out ?_; rw [HW7.out])
            | (go_at_call 69; go_loud (refine (nat2_w w4.heap.size _ _ m W7 HA7.out.ob hm (by have := Hlen.out; omega) HA7.out.below.size).mono ?_; rintro e W8 ⟨p8, n8, c8, rfl, hn8, ho8, hg8, hnear⟩; have HA8 := Lib.hid (HA7.out.step ho8 hg8); have Hn8 := Lib.hid hn8; have HNb8 := Lib.hid ((hg8.block _ Hs7.out (fun e => HO.out _ e.symm rfl)).trans HNb7.out); have HO8 := Lib.hid (fun g (e : (Value.slice p8 n8 c8).ownBlock = some g) => (show g ≠ W5.heap.size from by
                rcases hnear with h | ⟨g', h, hg'⟩
                · exact HO.out g (h.symm.trans e)
                · rw [h] at e; cases e; have := Hs7.out; omega)); clear hn8 ho8 hg8 hnear)))
          go_roundw
          case rel => exact ⟨k + 1, p8, n8, c8, by omega, by go_num, rfl, Lib.hid (by rw [Htk.out, natsN_snoc, if_pos rfl, ← List.append_assoc]; exact Hn8.out), Lib.hid (by rw [Htk.out, natsN_snoc, if_pos rfl, ← List.append_assoc]; exact HA8.out), HNb8, HO8⟩
          case measure => simp [intOf]; omega
      · have hk4 : k = 4 := by omega
        subst hk4
        have htk : fs.take 4 = [(fr, r1), (fi, i1), (fa, a1), (fc, c1)] := by rw [Hfs.out]; rfl
        rw [htk] at HA Hn
        have Hlen := Lib.hid (show (Form.nat k1 ++ Form.nat t1 ++ natsN [(fr, r1), (fi, i1), (fa, a1), (fc, c1)]).length ≤ 60 by
          have h1 := natsN_len fs Hall.out
          have h2 := Hp20.out
          rw [Hfs.out] at h1
          rw [List.length_append]
          simp only [List.length_cons, List.length_nil] at h1
          omega)
        clear htk HNb HO Hat Hall Hlen4 Hp20 Hfs hN6
        generalize hpre : Form.nat k1 ++ Form.nat t1 ++ natsN [(fr, r1), (fi, i1), (fa, a1), (fc, c1)] = pre at *
        have Hpre := Lib.hid hpre
        clear hpre
        have xw_0 := X0.out wr HA.out.below
        have xw_1 := X1.out wr HA.out.below
        have xw_2 := X2.out wr HA.out.below
        have xw_3 := X3.out wr HA.out.below
        have xw_4 := X4.out wr HA.out.below
        have xw_5 := X5.out wr HA.out.below
        have xw_6 := X6.out wr HA.out.below
        have xw_7 := X7.out wr HA.out.below
        have xw_8 := X8.out wr HA.out.below
        have gw_4 := G4.out wr HA.out.below
        have gw_5 := G5.out wr HA.out.below
        have gw_6 := G6.out wr HA.out.below
        go_wp2_with (go_at_call 70; go_loud (refine (flag2_w w4.heap.size _ _ y1 wr HA.out.ob (by have := Hlen.out; omega) HA.out.below.size).mono ?_; rintro e W8 ⟨p8, n8, c8, rfl, hn8, ho8, hg8, hnear⟩; have HA8 := Lib.hid (HA.out.step ho8 hg8); have Hn8 := Lib.hid hn8; have gq5 := G5.out W8 HA8.out.below; have gq6 := G6.out W8 HA8.out.below; clear hn8 ho8 hg8 hnear))
        go_ret2
        exact ⟨_, _, _, rfl, by rw [Hpre.out]; exact Hn8.out, by rw [Hpre.out]; exact OB.lower HA8.out.ob HB4.out.size, HB4.out.trans (HA8.out.below.mono HB4.out.size)⟩
  · rfl
  · kernel_rfl
end Go.Proofs.Yteellfgiejnigaa
/- The walk of notes.Bytes (case d). -/
namespace Go.Proofs.Yteellfgiejnigaa
open Go.ChangeShapes Go.WideShapes Go.ChangeAt Go.RowKit
set_option linter.unusedVariables false
set_option maxRecDepth 100000 in
set_option maxHeartbeats 12800000 in
theorem bytes_d_w (k1 t1 r1 i1 a1 c1 : Nat) (y1 : Bool) (L1 : List Ent) (D1 : List UInt8) (fr fi fa fc : Bool) (lv dv : Value) (S : Foot) (w : World) (h : NtA w S lv dv ⟨k1, t1, r1, i1, a1, c1, y1, L1, D1⟩) (hL : L1.length ≤ 16) (hLd : ∀ e ∈ L1, e.2.length ≤ 3000) (hD : D1.length ≤ 524288)
    (hM : ∀ W, NtA W S lv dv ⟨k1, t1, r1, i1, a1, c1, y1, L1, D1⟩ → Calls Try.prog 46 #[.agg #[.int .u8 (k1 : Int), .int .u64 (t1 : Int), .int .u64 (r1 : Int), .int .u64 (i1 : Int), .int .u64 (a1 : Int), .int .u64 (c1 : Int), .bool y1, lv, dv]] W fun e w' => e = .returned (.bool true) ∧ Below W.heap.size W w')
    (hF : ∀ W, Calls Try.prog 68 #[.int .u8 (k1 : Int)] W fun r w' => r = .returned (.agg #[.bool fr, .bool fi, .bool fa, .bool fc, .bool false, .bool false, .bool true]) ∧ Below W.heap.size W w') :
    Calls Try.prog 18 #[.agg #[.int .u8 (k1 : Int), .int .u64 (t1 : Int), .int .u64 (r1 : Int), .int .u64 (i1 : Int), .int .u64 (a1 : Int), .int .u64 (c1 : Int), .bool y1, lv, dv]] w fun r w' => ∃ p n c, r = .returned (.tuple #[.slice p n c, .int .i64 0]) ∧ n = (Form.nat k1 ++ Form.nat t1 ++ natsN [(fr, r1), (fi, i1), (fa, a1), (fc, c1)] ++ (Form.text D1)).length ∧ OB w' w.heap.size 5 (.slice p n c) (Form.nat k1 ++ Form.nat t1 ++ natsN [(fr, r1), (fi, i1), (fa, a1), (fc, c1)] ++ (Form.text D1)) ∧ Below w.heap.size w w' := by
  obtain ⟨⟨pl, cl, rfl⟩, ⟨pd, cd, rfl⟩⟩ := h.forms
  have hk1 : k1 < 256 := h.kind
  have ht1 : t1 < 2 ^ 64 := h.term
  have hr1 : r1 < 2 ^ 64 := h.round
  have hi1 : i1 < 2 ^ 64 := h.index
  have ha1 : a1 < 2 ^ 64 := h.at_
  have hc1 : c1 < 2 ^ 64 := h.commit
  dsimp only at *
  have hB1 := (Below.refl w.heap.size w).alloc (Nat.le_refl _) (.cells #[.int .u8 (k1 : Int), .int .u64 (t1 : Int), .int .u64 (r1 : Int), .int .u64 (i1 : Int), .int .u64 (a1 : Int), .int .u64 (c1 : Int), .bool y1, .slice pl L1.length cl, .slice pd D1.length cd] 31)
  have HB1 := Lib.hid hB1
  have H0 := Lib.hid (h.mono (S' := fun b => b < w.heap.size) fun b hb _ => hb)
  have HMa := Lib.hid (hM _ (h.keeps hB1.block))
  have HF := Lib.hid hF
  have HLd := Lib.hid hLd
  have Hnew := Lib.hid (heap_alloc_new w (.cells #[.int .u8 (k1 : Int), .int .u64 (t1 : Int), .int .u64 (r1 : Int), .int .u64 (i1 : Int), .int .u64 (a1 : Int), .int .u64 (c1 : Int), .bool y1, .slice pl L1.length cl, .slice pd D1.length cd] 31))
  have e18 : IntKind.u64.wrap (k1 : Int) = (k1 : Int) := IntWalk.u64_in _ (by omega)
  have e68 : IntKind.u64.wrap (L1.length : Int) = (L1.length : Int) := IntWalk.u64_in _ (by omega)
  clear h hB1 hM hF hLd
  go_enter Try.func18, Try.ntmps18
  go_wp2_with (first
    | (refine wpList_load_row rfl 31 (.tmp 1) rfl _ rfl _ _ _ _ Hnew.out Try.underlying31 rfl (show _ = some 9 by kernel_rfl) ?_)
    | (go_at_call 46; go_loud (refine (HMa.out).mono ?_; rintro e w2 ⟨rfl, hB⟩; have HB2 := Lib.hid (HB1.out.trans (hB.mono HB1.out.size)); have Hbx := Lib.hid ((hB.block w.heap.size (by simp)).trans Hnew.out); have x0 := (hB.cell (p := ⟨w.heap.size, 0, none⟩) (by simp)).trans (show _ = some (.int .u8 (k1 : Int)) by simp); clear hB HMa))
    | (go_at_call 68; go_loud (refine (HF.out _).mono ?_; rintro e w3 ⟨rfl, hB⟩; have HB3 := Lib.hid (HB2.out.trans (hB.mono HB2.out.size)); have Hbx3 := Lib.hid ((hB.block w.heap.size (Array.getElem?_eq_some_iff.1 Hbx.out).1).trans Hbx.out); clear hB HF)))
  have Hz4 := Lib.hid (heap_alloc_new w3 (.cells #[.bool fr, .bool fi, .bool fa, .bool fc, .bool false, .bool false, .bool true] 112))
  have HB4 := Lib.hid (HB3.out.alloc HB3.out.size (.cells #[.bool fr, .bool fi, .bool fa, .bool fc, .bool false, .bool false, .bool true] 112))
  have Hbx4 := Lib.hid ((Below.heap_alloc w3 (.cells #[.bool fr, .bool fi, .bool fa, .bool fc, .bool false, .bool false, .bool true] 112) w.heap.size (Array.getElem?_eq_some_iff.1 Hbx3.out).1).trans Hbx3.out)
  have hw3 : w3.heap.size < (w3.alloc (.cells #[.bool fr, .bool fi, .bool fa, .bool fc, .bool false, .bool false, .bool true] 112)).heap.size := by simp
  have hw0 : w.heap.size < (w3.alloc (.cells #[.bool fr, .bool fi, .bool fa, .bool fc, .bool false, .bool false, .bool true] 112)).heap.size := by have := HB3.out.size; simp; omega
  generalize hW4 : w3.alloc (.cells #[.bool fr, .bool fi, .bool fa, .bool fc, .bool false, .bool false, .bool true] 112) = w4 at *
  clear hW4
  have X0 := Lib.hid (fun (W : World) (hB : Below w4.heap.size w4 W) => (show W.cell? ⟨w.heap.size, 0, none⟩ = some (.int .u8 (k1 : Int)) from by rw [hB.cell (p := ⟨w.heap.size, 0, none⟩) hw0, cell_of_row _ _ _ _ _ _ Hbx4.out]; rfl))
  have X1 := Lib.hid (fun (W : World) (hB : Below w4.heap.size w4 W) => (show W.cell? ⟨w.heap.size, 1, none⟩ = some (.int .u64 (t1 : Int)) from by rw [hB.cell (p := ⟨w.heap.size, 1, none⟩) hw0, cell_of_row _ _ _ _ _ _ Hbx4.out]; rfl))
  have X2 := Lib.hid (fun (W : World) (hB : Below w4.heap.size w4 W) => (show W.cell? ⟨w.heap.size, 2, none⟩ = some (.int .u64 (r1 : Int)) from by rw [hB.cell (p := ⟨w.heap.size, 2, none⟩) hw0, cell_of_row _ _ _ _ _ _ Hbx4.out]; rfl))
  have X3 := Lib.hid (fun (W : World) (hB : Below w4.heap.size w4 W) => (show W.cell? ⟨w.heap.size, 3, none⟩ = some (.int .u64 (i1 : Int)) from by rw [hB.cell (p := ⟨w.heap.size, 3, none⟩) hw0, cell_of_row _ _ _ _ _ _ Hbx4.out]; rfl))
  have X4 := Lib.hid (fun (W : World) (hB : Below w4.heap.size w4 W) => (show W.cell? ⟨w.heap.size, 4, none⟩ = some (.int .u64 (a1 : Int)) from by rw [hB.cell (p := ⟨w.heap.size, 4, none⟩) hw0, cell_of_row _ _ _ _ _ _ Hbx4.out]; rfl))
  have X5 := Lib.hid (fun (W : World) (hB : Below w4.heap.size w4 W) => (show W.cell? ⟨w.heap.size, 5, none⟩ = some (.int .u64 (c1 : Int)) from by rw [hB.cell (p := ⟨w.heap.size, 5, none⟩) hw0, cell_of_row _ _ _ _ _ _ Hbx4.out]; rfl))
  have X6 := Lib.hid (fun (W : World) (hB : Below w4.heap.size w4 W) => (show W.cell? ⟨w.heap.size, 6, none⟩ = some (.bool y1) from by rw [hB.cell (p := ⟨w.heap.size, 6, none⟩) hw0, cell_of_row _ _ _ _ _ _ Hbx4.out]; rfl))
  have X7 := Lib.hid (fun (W : World) (hB : Below w4.heap.size w4 W) => (show W.cell? ⟨w.heap.size, 7, none⟩ = some (.slice pl L1.length cl) from by rw [hB.cell (p := ⟨w.heap.size, 7, none⟩) hw0, cell_of_row _ _ _ _ _ _ Hbx4.out]; rfl))
  have X8 := Lib.hid (fun (W : World) (hB : Below w4.heap.size w4 W) => (show W.cell? ⟨w.heap.size, 8, none⟩ = some (.slice pd D1.length cd) from by rw [hB.cell (p := ⟨w.heap.size, 8, none⟩) hw0, cell_of_row _ _ _ _ _ _ Hbx4.out]; rfl))
  have G0 := Lib.hid (fun (W : World) (hB : Below w4.heap.size w4 W) => (show W.cell? ⟨w3.heap.size, 0, none⟩ = some (.bool fr) from by rw [hB.cell (p := ⟨w3.heap.size, 0, none⟩) hw3, cell_of_row _ _ _ _ _ _ Hz4.out]; rfl))
  have G1 := Lib.hid (fun (W : World) (hB : Below w4.heap.size w4 W) => (show W.cell? ⟨w3.heap.size, 1, none⟩ = some (.bool fi) from by rw [hB.cell (p := ⟨w3.heap.size, 1, none⟩) hw3, cell_of_row _ _ _ _ _ _ Hz4.out]; rfl))
  have G2 := Lib.hid (fun (W : World) (hB : Below w4.heap.size w4 W) => (show W.cell? ⟨w3.heap.size, 2, none⟩ = some (.bool fa) from by rw [hB.cell (p := ⟨w3.heap.size, 2, none⟩) hw3, cell_of_row _ _ _ _ _ _ Hz4.out]; rfl))
  have G3 := Lib.hid (fun (W : World) (hB : Below w4.heap.size w4 W) => (show W.cell? ⟨w3.heap.size, 3, none⟩ = some (.bool fc) from by rw [hB.cell (p := ⟨w3.heap.size, 3, none⟩) hw3, cell_of_row _ _ _ _ _ _ Hz4.out]; rfl))
  have G4 := Lib.hid (fun (W : World) (hB : Below w4.heap.size w4 W) => (show W.cell? ⟨w3.heap.size, 4, none⟩ = some (.bool false) from by rw [hB.cell (p := ⟨w3.heap.size, 4, none⟩) hw3, cell_of_row _ _ _ _ _ _ Hz4.out]; rfl))
  have G5 := Lib.hid (fun (W : World) (hB : Below w4.heap.size w4 W) => (show W.cell? ⟨w3.heap.size, 5, none⟩ = some (.bool false) from by rw [hB.cell (p := ⟨w3.heap.size, 5, none⟩) hw3, cell_of_row _ _ _ _ _ _ Hz4.out]; rfl))
  have G6 := Lib.hid (fun (W : World) (hB : Below w4.heap.size w4 W) => (show W.cell? ⟨w3.heap.size, 6, none⟩ = some (.bool true) from by rw [hB.cell (p := ⟨w3.heap.size, 6, none⟩) hw3, cell_of_row _ _ _ _ _ _ Hz4.out]; rfl))
  apply RegT.wp_region_T rfl 92 7 rfl (by kernel_rfl) (RegT.Under w4.heap.size) (RegT.Under.refl _) (RegT.Under.trans _)
  · apply RegT.T_pure (v := .pointer (some ⟨w.heap.size, 0, none⟩)) rfl rfl rfl
    · intro W hR; clear hR; go_simp
    simp only [List.set_cons_succ, List.set_cons_zero, Nat.reduceAdd]
    apply RegT.T_pure (v := .int .u8 (k1 : Int)) rfl rfl rfl
    · intro W hR
      have hc := X0.out W ((Below.refl w4.heap.size w4).drew.trans (hR (Nat.le_refl _)).1)
      clear hR
      go_simp
    simp only [List.set_cons_succ, List.set_cons_zero, Nat.reduceAdd]
    apply RegT.T_pure (v := .int .u64 (k1 : Int)) rfl rfl rfl
    · intro W hR; clear hR; go_simp
    simp only [List.set_cons_succ, List.set_cons_zero, Nat.reduceAdd]
    apply RegT.T_predC rfl rfl rfl 6 (AccP w4.heap.size (Form.nat k1)) (RegT.Under.grow _) (fun y x z hR h => h.keeps hR.block)
    · intro W hR hf
      have hsz := (hR (Nat.le_refl _)).2
      have Hc := Lib.hid (nat2_w w4.heap.size (.slice none 0 0) [] k1 W (OB.nil _ _ _) (by omega) (by decide) hsz)
      clear hR hf
      go_simp
      exact RegT.OpOK_enter Hc.out (fun e w' ⟨p, k, c, he, hk, ho, hg, _⟩ => ⟨_, he, ⟨p, k, c, rfl, hk, ho⟩, below_grown hg _ (Nat.le_refl _) (fun k e => by cases e)⟩)
    intro v3
    simp only [List.set_cons_succ, List.set_cons_zero, Nat.reduceAdd]
    apply RegT.T_pure (v := .pointer (some ⟨w.heap.size, 1, none⟩)) rfl rfl rfl
    · intro W hR; clear hR; go_simp
    simp only [List.set_cons_succ, List.set_cons_zero, Nat.reduceAdd]
    apply RegT.T_pure (v := .int .u64 (t1 : Int)) rfl rfl rfl
    · intro W hR
      have hc := X1.out W ((Below.refl w4.heap.size w4).drew.trans (hR (Nat.le_refl _)).1)
      clear hR
      go_simp
    simp only [List.set_cons_succ, List.set_cons_zero, Nat.reduceAdd]
    apply RegT.T_write rfl rfl rfl none (AccP w4.heap.size (Form.nat k1 ++ Form.nat t1)) (fun y x z hR h => h.keeps hR.block)
    · intro W hR hf
      have hsz := (hR (Nat.le_refl _)).2
      obtain ⟨p, n, c, rfl, hn, ho⟩ : AccP w4.heap.size (Form.nat k1) v3 W := hf _ (.head _) (by kernel_rfl) (.inr rfl)
      have h10 := Form.nat_len10 (n := k1) (by omega)
      have Hc := Lib.hid (nat2_w w4.heap.size _ _ t1 W ho ht1 (by omega) hsz)
      have Ho := Lib.hid ho
      clear hR hf ho hn h10
      go_simp
      exact RegT.OpOK_enter Hc.out (fun e w' ⟨p, k, c, he, hk, ho, hg, _⟩ => ⟨_, he, ⟨p, k, c, rfl, hk, ho⟩, fun _ => ⟨below_own Ho.out hg hsz, Nat.le_trans hsz hg.size⟩⟩)
    intro v6
    simp only [List.set_cons_succ, List.set_cons_zero, Nat.reduceAdd]
    refine RegT.T_tail (fun W5 hR hf => ?_)
    have hy : AccP w4.heap.size (Form.nat k1 ++ Form.nat t1) v6 W5 := hf _ (.head _) (.inl rfl)
    obtain ⟨p6, n6, c6, rfl, hn6, ho6⟩ := hy
    have HA := Lib.hid (show Mk w4 W5 (.slice p6 n6 c6) (Form.nat k1 ++ Form.nat t1) from ⟨ho6, ((Below.refl w4.heap.size w4).drew.trans (hR (Nat.le_refl _)).1)⟩)
    have Hn6 := Lib.hid hn6
    clear hR hf ho6 hn6
    simp only [List.drop_succ_cons, List.drop_zero]
    have xW5_0 := X0.out W5 HA.out.below
    have xW5_1 := X1.out W5 HA.out.below
    have xW5_2 := X2.out W5 HA.out.below
    have xW5_3 := X3.out W5 HA.out.below
    have xW5_4 := X4.out W5 HA.out.below
    have xW5_5 := X5.out W5 HA.out.below
    have xW5_6 := X6.out W5 HA.out.below
    have xW5_7 := X7.out W5 HA.out.below
    have xW5_8 := X8.out W5 HA.out.below
    have gW5_0 := G0.out W5 HA.out.below
    have gW5_1 := G1.out W5 HA.out.below
    have gW5_2 := G2.out W5 HA.out.below
    have gW5_3 := G3.out W5 HA.out.below
    have gW5_4 := G4.out W5 HA.out.below
    have gW5_5 := G5.out W5 HA.out.below
    have gW5_6 := G6.out W5 HA.out.below
    go_wp2
    have HN := Lib.hid (heap_alloc_new W5 (.cells #[.bool fr, .int .u64 (r1 : Int), .bool fi, .int .u64 (i1 : Int), .bool fa, .int .u64 (a1 : Int), .bool fc, .int .u64 (c1 : Int)] 115))
    have HA5 := Lib.hid (HA.out.keep ((Below.refl W5.heap.size W5).alloc (Nat.le_refl _) (.cells #[.bool fr, .int .u64 (r1 : Int), .bool fi, .int .u64 (i1 : Int), .bool fa, .int .u64 (a1 : Int), .bool fc, .int .u64 (c1 : Int)] 115)))
    have HO5 := Lib.hid (fun g (e : (Value.slice p6 n6 c6).ownBlock = some g) => (show g < W5.heap.size from (HA.out.ob.lt g e).2))
    generalize hW6 : W5.alloc (.cells #[.bool fr, .int .u64 (r1 : Int), .bool fi, .int .u64 (i1 : Int), .bool fa, .int .u64 (a1 : Int), .bool fc, .int .u64 (c1 : Int)] 115) = W6 at *
    have hN6 : W5.heap.size < W6.heap.size := by rw [← hW6]; simp
    clear hW6
    obtain ⟨fs, hfs⟩ : ∃ fs : List (Bool × Nat), fs = [(fr, r1), (fi, i1), (fa, a1), (fc, c1)] := ⟨_, rfl⟩
    have Hfs := Lib.hid hfs
    have Hat := Lib.hid (show ∀ k, k < 4 → ∃ b n, fs[k]? = some (b, n) ∧ n < 2 ^ 64 ∧ (#[.bool fr, .int .u64 (r1 : Int), .bool fi, .int .u64 (i1 : Int), .bool fa, .int .u64 (a1 : Int), .bool fc, .int .u64 (c1 : Int)] : Array Value)[k * 2]? = some (.bool b) ∧ (#[.bool fr, .int .u64 (r1 : Int), .bool fi, .int .u64 (i1 : Int), .bool fa, .int .u64 (a1 : Int), .bool fc, .int .u64 (c1 : Int)] : Array Value)[k * 2 + 1]? = some (.int .u64 (n : Int)) from by
      intro k hk
      have h4 : k = 0 ∨ k = 1 ∨ k = 2 ∨ k = 3 := by omega
      rcases h4 with rfl | rfl | rfl | rfl
      · exact ⟨fr, r1, by rw [hfs]; rfl, hr1, rfl, rfl⟩
      · exact ⟨fi, i1, by rw [hfs]; rfl, hi1, rfl, rfl⟩
      · exact ⟨fa, a1, by rw [hfs]; rfl, ha1, rfl, rfl⟩
      · exact ⟨fc, c1, by rw [hfs]; rfl, hc1, rfl, rfl⟩)
    have Hall := Lib.hid (show ∀ f ∈ fs, f.2 < 2 ^ 64 from by rw [hfs]; intro f hf; simp at hf; rcases hf with rfl | rfl | rfl | rfl <;> assumption)
    have Hlen4 := Lib.hid (show fs.length = 4 by rw [hfs]; rfl)
    have Hp20 := Lib.hid (show (Form.nat k1 ++ Form.nat t1).length ≤ 20 by rw [List.length_append]; have h1 := Form.nat_len10 (n := k1) (by omega); have h2 := Form.nat_len10 ht1; omega)
    clear hfs HA xW5_0 xW5_1 xW5_2 xW5_3 xW5_4 xW5_5 xW5_6 xW5_7 xW5_8 gW5_0 gW5_1 gW5_2 gW5_3 gW5_4 gW5_5 gW5_6
    go_loopw [5, 45] (fun v i wr => ∃ (k : Nat) (p : Option Addr) (n c : Nat), k ≤ 4 ∧ i = .int .i64 (k : Int) ∧ v = .slice p n c ∧ Hid (n = (Form.nat k1 ++ Form.nat t1 ++ natsN (fs.take k)).length) ∧ Hid (Mk w4 wr (.slice p n c) (Form.nat k1 ++ Form.nat t1 ++ natsN (fs.take k))) ∧ Hid (wr.heap[W5.heap.size]? = some (.cells #[.bool fr, .int .u64 (r1 : Int), .bool fi, .int .u64 (i1 : Int), .bool fa, .int .u64 (a1 : Int), .bool fc, .int .u64 (c1 : Int)] 115)) ∧ Hid (∀ g, (Value.slice p n c).ownBlock = some g → g ≠ W5.heap.size)) (fun _ i _ => 4 - (intOf i).toNat)
    case atStart => exact ⟨0, p6, n6, c6, by omega, rfl, rfl, Lib.hid (by rw [Hn6.out]; simp [natsN]), Lib.hid (by simpa [natsN] using HA5.out), HN, Lib.hid (fun g e => by have := HO5.out g e; omega)⟩
    case round =>
      obtain ⟨k, p, n, c, hk, rfl, rfl, Hn, HA, HNb, HO⟩ := hrel
      clear HA5 HO5 HN
      by_cases hlt : k < 4
      · obtain ⟨b, m, hfk, hm, hc0, hc1'⟩ := Hat.out k hlt
        have hra : wr.rangeAt W5.heap.size (k * 2) [.bool b, .int .u64 (m : Int)] := fun j u hu => by
          rw [cell_of_row _ _ _ _ _ _ HNb.out]
          match j, hu with
          | 0, hu => cases hu; exact hc0
          | 1, hu => cases hu; exact hc1'
        have Hra := Lib.hid hra
        have Htk := Lib.hid (show fs.take (k + 1) = fs.take k ++ [(b, m)] by rw [List.take_add_one, hfk]; rfl)
        have hlen : (Form.nat k1 ++ Form.nat t1 ++ natsN (fs.take k)).length ≤ 60 := by
          have h1 := natsN_len (fs.take k) fun f hf => Hall.out f (List.mem_of_mem_take hf)
          have h2 := Hp20.out
          rw [List.length_append]
          rw [List.length_take] at h1
          have := Hlen4.out
          omega
        have Hlen := Lib.hid hlen
        have hnb : W5.heap.size < wr.heap.size := (Array.getElem?_eq_some_iff.1 HNb.out).1
        obtain ⟨W7, HW7, he7, hB7⟩ := stored115 wr b m
        have HZ := Lib.hid (heap_alloc_new wr (.cells #[.bool false, .int .u64 0] 115))
        have z0 : W7.cell? ⟨wr.heap.size, 0, none⟩ = some (.bool b) := by rw [cell_of_row _ _ _ _ _ _ he7]; rfl
        have z1 : W7.cell? ⟨wr.heap.size, 1, none⟩ = some (.int .u64 (m : Int)) := by rw [cell_of_row _ _ _ _ _ _ he7]; rfl
        have HA7 := Lib.hid (HA.out.keep hB7)
        have HNb7 := Lib.hid ((hB7.block _ hnb).trans HNb.out)
        have hone : (#[Value.bool b, .int .u64 (m : Int)]).all (·.oneCell') = true := by simp [Value.oneCell']
        have Hone := Lib.hid hone
        have Hs7 := Lib.hid (Nat.lt_of_lt_of_le hnb hB7.size)
        clear hra hfk hc0 hc1' hlen he7 hB7 hone
        cases b with
        | false =>
          go_wp2_with (first
            | (refine wpList_load_mid rfl 115 (.tmp 47) rfl _ _ rfl [.bool false, .int .u64 (m : Int)] _ Hra.out Try.underlying115 rfl (show _ = some 2 by kernel_rfl) ?_)
            | (refine wpList_alloc_zero rfl 115 rfl _ hz115 ?_)
            | (refine wpList_store_rowTo rfl 115 (.tmp 7) (.tmp 48) rfl rfl _ #[.bool false, .int .u64 (m : Int)] rfl rfl 115 #[.bool false, .int .u64 0] HZ.out (show _ = some 2 by kernel_rfl) rfl Hone.out ?_; rw [HW7.out]))
          go_roundw
          case rel => exact ⟨k + 1, p, n, c, by omega, by go_num, rfl, Lib.hid (by rw [Htk.out, natsN_snoc, if_neg (by simp), List.append_nil]; exact Hn.out), Lib.hid (by rw [Htk.out, natsN_snoc, if_neg (by simp), List.append_nil]; exact HA7.out), HNb7, HO⟩
          case measure => simp [intOf]; omega
        | true =>
          go_wp2_with (first
            | (refine wpList_load_mid rfl 115 (.tmp 47) rfl _ _ rfl [.bool true, .int .u64 (m : Int)] _ Hra.out Try.underlying115 rfl (show _ = some 2 by kernel_rfl) ?_)
            | (refine wpList_alloc_zero rfl 115 rfl _ hz115 ?_)
            | (refine wpList_store_rowTo rfl 115 (.tmp 7) (.tmp 48) rfl rfl _ #[.bool true, .int .u64 (m : Int)] rfl rfl 115 #[.bool false, .int .u64 0] HZ.out (show _ = some 2 by kernel_rfl) rfl Hone.out ?_; rw [HW7.out])
            | (go_at_call 69; go_loud (refine (nat2_w w4.heap.size _ _ m W7 HA7.out.ob hm (by have := Hlen.out; omega) HA7.out.below.size).mono ?_; rintro e W8 ⟨p8, n8, c8, rfl, hn8, ho8, hg8, hnear⟩; have HA8 := Lib.hid (HA7.out.step ho8 hg8); have Hn8 := Lib.hid hn8; have HNb8 := Lib.hid ((hg8.block _ Hs7.out (fun e => HO.out _ e.symm rfl)).trans HNb7.out); have HO8 := Lib.hid (fun g (e : (Value.slice p8 n8 c8).ownBlock = some g) => (show g ≠ W5.heap.size from by
                rcases hnear with h | ⟨g', h, hg'⟩
                · exact HO.out g (h.symm.trans e)
                · rw [h] at e; cases e; have := Hs7.out; omega)); clear hn8 ho8 hg8 hnear)))
          go_roundw
          case rel => exact ⟨k + 1, p8, n8, c8, by omega, by go_num, rfl, Lib.hid (by rw [Htk.out, natsN_snoc, if_pos rfl, ← List.append_assoc]; exact Hn8.out), Lib.hid (by rw [Htk.out, natsN_snoc, if_pos rfl, ← List.append_assoc]; exact HA8.out), HNb8, HO8⟩
          case measure => simp [intOf]; omega
      · have hk4 : k = 4 := by omega
        subst hk4
        have htk : fs.take 4 = [(fr, r1), (fi, i1), (fa, a1), (fc, c1)] := by rw [Hfs.out]; rfl
        rw [htk] at HA Hn
        have Hlen := Lib.hid (show (Form.nat k1 ++ Form.nat t1 ++ natsN [(fr, r1), (fi, i1), (fa, a1), (fc, c1)]).length ≤ 60 by
          have h1 := natsN_len fs Hall.out
          have h2 := Hp20.out
          rw [Hfs.out] at h1
          rw [List.length_append]
          simp only [List.length_cons, List.length_nil] at h1
          omega)
        clear htk HNb HO Hat Hall Hlen4 Hp20 Hfs hN6
        generalize hpre : Form.nat k1 ++ Form.nat t1 ++ natsN [(fr, r1), (fi, i1), (fa, a1), (fc, c1)] = pre at *
        have Hpre := Lib.hid hpre
        clear hpre
        have xw_0 := X0.out wr HA.out.below
        have xw_1 := X1.out wr HA.out.below
        have xw_2 := X2.out wr HA.out.below
        have xw_3 := X3.out wr HA.out.below
        have xw_4 := X4.out wr HA.out.below
        have xw_5 := X5.out wr HA.out.below
        have xw_6 := X6.out wr HA.out.below
        have xw_7 := X7.out wr HA.out.below
        have xw_8 := X8.out wr HA.out.below
        have gw_4 := G4.out wr HA.out.below
        have gw_5 := G5.out wr HA.out.below
        have gw_6 := G6.out wr HA.out.below
        have HDw := Lib.hid (H0.out.d.keeps (Keeps.trans HB4.out.block (fun b hb => HA.out.below.block b hb)))
        go_wp2_with (go_at_call 71; go_loud (refine (text2_w w4.heap.size _ _ _ D1 (fun b => b < w.heap.size) wr HA.out.ob HDw.out (fun b hb e => by have h2 : b < w.heap.size := hb; have := (HA.out.ob.lt b e).1; omega) (by have := Hlen.out; omega) (by omega) HA.out.below.size).mono ?_; rintro e W8 ⟨p8, n8, c8, rfl, hn8, ho8, hg8, hnear⟩; have HA8 := Lib.hid (HA.out.step ho8 hg8); have Hn8 := Lib.hid hn8; clear hn8 ho8 hg8 hnear))
        go_ret2
        exact ⟨_, _, _, rfl, by rw [Hpre.out]; exact Hn8.out, by rw [Hpre.out]; exact OB.lower HA8.out.ob HB4.out.size, HB4.out.trans (HA8.out.below.mono HB4.out.size)⟩
  · rfl
  · kernel_rfl
end Go.Proofs.Yteellfgiejnigaa
/- The walk of notes.Bytes (case l). -/
namespace Go.Proofs.Yteellfgiejnigaa
open Go.ChangeShapes Go.WideShapes Go.ChangeAt Go.RowKit
set_option linter.unusedVariables false
set_option maxRecDepth 100000 in
set_option maxHeartbeats 12800000 in
theorem bytes_l_w (k1 t1 r1 i1 a1 c1 : Nat) (y1 : Bool) (L1 : List Ent) (D1 : List UInt8) (fr fi fa fc : Bool) (lv dv : Value) (S : Foot) (w : World) (h : NtA w S lv dv ⟨k1, t1, r1, i1, a1, c1, y1, L1, D1⟩) (hL : L1.length ≤ 16) (hLd : ∀ e ∈ L1, e.2.length ≤ 3000) (hD : D1.length ≤ 524288)
    (hM : ∀ W, NtA W S lv dv ⟨k1, t1, r1, i1, a1, c1, y1, L1, D1⟩ → Calls Try.prog 46 #[.agg #[.int .u8 (k1 : Int), .int .u64 (t1 : Int), .int .u64 (r1 : Int), .int .u64 (i1 : Int), .int .u64 (a1 : Int), .int .u64 (c1 : Int), .bool y1, lv, dv]] W fun e w' => e = .returned (.bool true) ∧ Below W.heap.size W w')
    (hF : ∀ W, Calls Try.prog 68 #[.int .u8 (k1 : Int)] W fun r w' => r = .returned (.agg #[.bool fr, .bool fi, .bool fa, .bool fc, .bool false, .bool true, .bool false]) ∧ Below W.heap.size W w') :
    Calls Try.prog 18 #[.agg #[.int .u8 (k1 : Int), .int .u64 (t1 : Int), .int .u64 (r1 : Int), .int .u64 (i1 : Int), .int .u64 (a1 : Int), .int .u64 (c1 : Int), .bool y1, lv, dv]] w fun r w' => ∃ p n c, r = .returned (.tuple #[.slice p n c, .int .i64 0]) ∧ n = (Form.nat k1 ++ Form.nat t1 ++ natsN [(fr, r1), (fi, i1), (fa, a1), (fc, c1)] ++ (Form.nat L1.length ++ entsN L1)).length ∧ OB w' w.heap.size 5 (.slice p n c) (Form.nat k1 ++ Form.nat t1 ++ natsN [(fr, r1), (fi, i1), (fa, a1), (fc, c1)] ++ (Form.nat L1.length ++ entsN L1)) ∧ Below w.heap.size w w' := by
  obtain ⟨⟨pl, cl, rfl⟩, ⟨pd, cd, rfl⟩⟩ := h.forms
  have hk1 : k1 < 256 := h.kind
  have ht1 : t1 < 2 ^ 64 := h.term
  have hr1 : r1 < 2 ^ 64 := h.round
  have hi1 : i1 < 2 ^ 64 := h.index
  have ha1 : a1 < 2 ^ 64 := h.at_
  have hc1 : c1 < 2 ^ 64 := h.commit
  dsimp only at *
  have hB1 := (Below.refl w.heap.size w).alloc (Nat.le_refl _) (.cells #[.int .u8 (k1 : Int), .int .u64 (t1 : Int), .int .u64 (r1 : Int), .int .u64 (i1 : Int), .int .u64 (a1 : Int), .int .u64 (c1 : Int), .bool y1, .slice pl L1.length cl, .slice pd D1.length cd] 31)
  have HB1 := Lib.hid hB1
  have H0 := Lib.hid (h.mono (S' := fun b => b < w.heap.size) fun b hb _ => hb)
  have HMa := Lib.hid (hM _ (h.keeps hB1.block))
  have HF := Lib.hid hF
  have HLd := Lib.hid hLd
  have Hnew := Lib.hid (heap_alloc_new w (.cells #[.int .u8 (k1 : Int), .int .u64 (t1 : Int), .int .u64 (r1 : Int), .int .u64 (i1 : Int), .int .u64 (a1 : Int), .int .u64 (c1 : Int), .bool y1, .slice pl L1.length cl, .slice pd D1.length cd] 31))
  have e18 : IntKind.u64.wrap (k1 : Int) = (k1 : Int) := IntWalk.u64_in _ (by omega)
  have e68 : IntKind.u64.wrap (L1.length : Int) = (L1.length : Int) := IntWalk.u64_in _ (by omega)
  clear h hB1 hM hF hLd
  go_enter Try.func18, Try.ntmps18
  go_wp2_with (first
    | (refine wpList_load_row rfl 31 (.tmp 1) rfl _ rfl _ _ _ _ Hnew.out Try.underlying31 rfl (show _ = some 9 by kernel_rfl) ?_)
    | (go_at_call 46; go_loud (refine (HMa.out).mono ?_; rintro e w2 ⟨rfl, hB⟩; have HB2 := Lib.hid (HB1.out.trans (hB.mono HB1.out.size)); have Hbx := Lib.hid ((hB.block w.heap.size (by simp)).trans Hnew.out); have x0 := (hB.cell (p := ⟨w.heap.size, 0, none⟩) (by simp)).trans (show _ = some (.int .u8 (k1 : Int)) by simp); clear hB HMa))
    | (go_at_call 68; go_loud (refine (HF.out _).mono ?_; rintro e w3 ⟨rfl, hB⟩; have HB3 := Lib.hid (HB2.out.trans (hB.mono HB2.out.size)); have Hbx3 := Lib.hid ((hB.block w.heap.size (Array.getElem?_eq_some_iff.1 Hbx.out).1).trans Hbx.out); clear hB HF)))
  have Hz4 := Lib.hid (heap_alloc_new w3 (.cells #[.bool fr, .bool fi, .bool fa, .bool fc, .bool false, .bool true, .bool false] 112))
  have HB4 := Lib.hid (HB3.out.alloc HB3.out.size (.cells #[.bool fr, .bool fi, .bool fa, .bool fc, .bool false, .bool true, .bool false] 112))
  have Hbx4 := Lib.hid ((Below.heap_alloc w3 (.cells #[.bool fr, .bool fi, .bool fa, .bool fc, .bool false, .bool true, .bool false] 112) w.heap.size (Array.getElem?_eq_some_iff.1 Hbx3.out).1).trans Hbx3.out)
  have hw3 : w3.heap.size < (w3.alloc (.cells #[.bool fr, .bool fi, .bool fa, .bool fc, .bool false, .bool true, .bool false] 112)).heap.size := by simp
  have hw0 : w.heap.size < (w3.alloc (.cells #[.bool fr, .bool fi, .bool fa, .bool fc, .bool false, .bool true, .bool false] 112)).heap.size := by have := HB3.out.size; simp; omega
  generalize hW4 : w3.alloc (.cells #[.bool fr, .bool fi, .bool fa, .bool fc, .bool false, .bool true, .bool false] 112) = w4 at *
  clear hW4
  have X0 := Lib.hid (fun (W : World) (hB : Below w4.heap.size w4 W) => (show W.cell? ⟨w.heap.size, 0, none⟩ = some (.int .u8 (k1 : Int)) from by rw [hB.cell (p := ⟨w.heap.size, 0, none⟩) hw0, cell_of_row _ _ _ _ _ _ Hbx4.out]; rfl))
  have X1 := Lib.hid (fun (W : World) (hB : Below w4.heap.size w4 W) => (show W.cell? ⟨w.heap.size, 1, none⟩ = some (.int .u64 (t1 : Int)) from by rw [hB.cell (p := ⟨w.heap.size, 1, none⟩) hw0, cell_of_row _ _ _ _ _ _ Hbx4.out]; rfl))
  have X2 := Lib.hid (fun (W : World) (hB : Below w4.heap.size w4 W) => (show W.cell? ⟨w.heap.size, 2, none⟩ = some (.int .u64 (r1 : Int)) from by rw [hB.cell (p := ⟨w.heap.size, 2, none⟩) hw0, cell_of_row _ _ _ _ _ _ Hbx4.out]; rfl))
  have X3 := Lib.hid (fun (W : World) (hB : Below w4.heap.size w4 W) => (show W.cell? ⟨w.heap.size, 3, none⟩ = some (.int .u64 (i1 : Int)) from by rw [hB.cell (p := ⟨w.heap.size, 3, none⟩) hw0, cell_of_row _ _ _ _ _ _ Hbx4.out]; rfl))
  have X4 := Lib.hid (fun (W : World) (hB : Below w4.heap.size w4 W) => (show W.cell? ⟨w.heap.size, 4, none⟩ = some (.int .u64 (a1 : Int)) from by rw [hB.cell (p := ⟨w.heap.size, 4, none⟩) hw0, cell_of_row _ _ _ _ _ _ Hbx4.out]; rfl))
  have X5 := Lib.hid (fun (W : World) (hB : Below w4.heap.size w4 W) => (show W.cell? ⟨w.heap.size, 5, none⟩ = some (.int .u64 (c1 : Int)) from by rw [hB.cell (p := ⟨w.heap.size, 5, none⟩) hw0, cell_of_row _ _ _ _ _ _ Hbx4.out]; rfl))
  have X6 := Lib.hid (fun (W : World) (hB : Below w4.heap.size w4 W) => (show W.cell? ⟨w.heap.size, 6, none⟩ = some (.bool y1) from by rw [hB.cell (p := ⟨w.heap.size, 6, none⟩) hw0, cell_of_row _ _ _ _ _ _ Hbx4.out]; rfl))
  have X7 := Lib.hid (fun (W : World) (hB : Below w4.heap.size w4 W) => (show W.cell? ⟨w.heap.size, 7, none⟩ = some (.slice pl L1.length cl) from by rw [hB.cell (p := ⟨w.heap.size, 7, none⟩) hw0, cell_of_row _ _ _ _ _ _ Hbx4.out]; rfl))
  have X8 := Lib.hid (fun (W : World) (hB : Below w4.heap.size w4 W) => (show W.cell? ⟨w.heap.size, 8, none⟩ = some (.slice pd D1.length cd) from by rw [hB.cell (p := ⟨w.heap.size, 8, none⟩) hw0, cell_of_row _ _ _ _ _ _ Hbx4.out]; rfl))
  have G0 := Lib.hid (fun (W : World) (hB : Below w4.heap.size w4 W) => (show W.cell? ⟨w3.heap.size, 0, none⟩ = some (.bool fr) from by rw [hB.cell (p := ⟨w3.heap.size, 0, none⟩) hw3, cell_of_row _ _ _ _ _ _ Hz4.out]; rfl))
  have G1 := Lib.hid (fun (W : World) (hB : Below w4.heap.size w4 W) => (show W.cell? ⟨w3.heap.size, 1, none⟩ = some (.bool fi) from by rw [hB.cell (p := ⟨w3.heap.size, 1, none⟩) hw3, cell_of_row _ _ _ _ _ _ Hz4.out]; rfl))
  have G2 := Lib.hid (fun (W : World) (hB : Below w4.heap.size w4 W) => (show W.cell? ⟨w3.heap.size, 2, none⟩ = some (.bool fa) from by rw [hB.cell (p := ⟨w3.heap.size, 2, none⟩) hw3, cell_of_row _ _ _ _ _ _ Hz4.out]; rfl))
  have G3 := Lib.hid (fun (W : World) (hB : Below w4.heap.size w4 W) => (show W.cell? ⟨w3.heap.size, 3, none⟩ = some (.bool fc) from by rw [hB.cell (p := ⟨w3.heap.size, 3, none⟩) hw3, cell_of_row _ _ _ _ _ _ Hz4.out]; rfl))
  have G4 := Lib.hid (fun (W : World) (hB : Below w4.heap.size w4 W) => (show W.cell? ⟨w3.heap.size, 4, none⟩ = some (.bool false) from by rw [hB.cell (p := ⟨w3.heap.size, 4, none⟩) hw3, cell_of_row _ _ _ _ _ _ Hz4.out]; rfl))
  have G5 := Lib.hid (fun (W : World) (hB : Below w4.heap.size w4 W) => (show W.cell? ⟨w3.heap.size, 5, none⟩ = some (.bool true) from by rw [hB.cell (p := ⟨w3.heap.size, 5, none⟩) hw3, cell_of_row _ _ _ _ _ _ Hz4.out]; rfl))
  have G6 := Lib.hid (fun (W : World) (hB : Below w4.heap.size w4 W) => (show W.cell? ⟨w3.heap.size, 6, none⟩ = some (.bool false) from by rw [hB.cell (p := ⟨w3.heap.size, 6, none⟩) hw3, cell_of_row _ _ _ _ _ _ Hz4.out]; rfl))
  apply RegT.wp_region_T rfl 92 7 rfl (by kernel_rfl) (RegT.Under w4.heap.size) (RegT.Under.refl _) (RegT.Under.trans _)
  · apply RegT.T_pure (v := .pointer (some ⟨w.heap.size, 0, none⟩)) rfl rfl rfl
    · intro W hR; clear hR; go_simp
    simp only [List.set_cons_succ, List.set_cons_zero, Nat.reduceAdd]
    apply RegT.T_pure (v := .int .u8 (k1 : Int)) rfl rfl rfl
    · intro W hR
      have hc := X0.out W ((Below.refl w4.heap.size w4).drew.trans (hR (Nat.le_refl _)).1)
      clear hR
      go_simp
    simp only [List.set_cons_succ, List.set_cons_zero, Nat.reduceAdd]
    apply RegT.T_pure (v := .int .u64 (k1 : Int)) rfl rfl rfl
    · intro W hR; clear hR; go_simp
    simp only [List.set_cons_succ, List.set_cons_zero, Nat.reduceAdd]
    apply RegT.T_predC rfl rfl rfl 6 (AccP w4.heap.size (Form.nat k1)) (RegT.Under.grow _) (fun y x z hR h => h.keeps hR.block)
    · intro W hR hf
      have hsz := (hR (Nat.le_refl _)).2
      have Hc := Lib.hid (nat2_w w4.heap.size (.slice none 0 0) [] k1 W (OB.nil _ _ _) (by omega) (by decide) hsz)
      clear hR hf
      go_simp
      exact RegT.OpOK_enter Hc.out (fun e w' ⟨p, k, c, he, hk, ho, hg, _⟩ => ⟨_, he, ⟨p, k, c, rfl, hk, ho⟩, below_grown hg _ (Nat.le_refl _) (fun k e => by cases e)⟩)
    intro v3
    simp only [List.set_cons_succ, List.set_cons_zero, Nat.reduceAdd]
    apply RegT.T_pure (v := .pointer (some ⟨w.heap.size, 1, none⟩)) rfl rfl rfl
    · intro W hR; clear hR; go_simp
    simp only [List.set_cons_succ, List.set_cons_zero, Nat.reduceAdd]
    apply RegT.T_pure (v := .int .u64 (t1 : Int)) rfl rfl rfl
    · intro W hR
      have hc := X1.out W ((Below.refl w4.heap.size w4).drew.trans (hR (Nat.le_refl _)).1)
      clear hR
      go_simp
    simp only [List.set_cons_succ, List.set_cons_zero, Nat.reduceAdd]
    apply RegT.T_write rfl rfl rfl none (AccP w4.heap.size (Form.nat k1 ++ Form.nat t1)) (fun y x z hR h => h.keeps hR.block)
    · intro W hR hf
      have hsz := (hR (Nat.le_refl _)).2
      obtain ⟨p, n, c, rfl, hn, ho⟩ : AccP w4.heap.size (Form.nat k1) v3 W := hf _ (.head _) (by kernel_rfl) (.inr rfl)
      have h10 := Form.nat_len10 (n := k1) (by omega)
      have Hc := Lib.hid (nat2_w w4.heap.size _ _ t1 W ho ht1 (by omega) hsz)
      have Ho := Lib.hid ho
      clear hR hf ho hn h10
      go_simp
      exact RegT.OpOK_enter Hc.out (fun e w' ⟨p, k, c, he, hk, ho, hg, _⟩ => ⟨_, he, ⟨p, k, c, rfl, hk, ho⟩, fun _ => ⟨below_own Ho.out hg hsz, Nat.le_trans hsz hg.size⟩⟩)
    intro v6
    simp only [List.set_cons_succ, List.set_cons_zero, Nat.reduceAdd]
    refine RegT.T_tail (fun W5 hR hf => ?_)
    have hy : AccP w4.heap.size (Form.nat k1 ++ Form.nat t1) v6 W5 := hf _ (.head _) (.inl rfl)
    obtain ⟨p6, n6, c6, rfl, hn6, ho6⟩ := hy
    have HA := Lib.hid (show Mk w4 W5 (.slice p6 n6 c6) (Form.nat k1 ++ Form.nat t1) from ⟨ho6, ((Below.refl w4.heap.size w4).drew.trans (hR (Nat.le_refl _)).1)⟩)
    have Hn6 := Lib.hid hn6
    clear hR hf ho6 hn6
    simp only [List.drop_succ_cons, List.drop_zero]
    have xW5_0 := X0.out W5 HA.out.below
    have xW5_1 := X1.out W5 HA.out.below
    have xW5_2 := X2.out W5 HA.out.below
    have xW5_3 := X3.out W5 HA.out.below
    have xW5_4 := X4.out W5 HA.out.below
    have xW5_5 := X5.out W5 HA.out.below
    have xW5_6 := X6.out W5 HA.out.below
    have xW5_7 := X7.out W5 HA.out.below
    have xW5_8 := X8.out W5 HA.out.below
    have gW5_0 := G0.out W5 HA.out.below
    have gW5_1 := G1.out W5 HA.out.below
    have gW5_2 := G2.out W5 HA.out.below
    have gW5_3 := G3.out W5 HA.out.below
    have gW5_4 := G4.out W5 HA.out.below
    have gW5_5 := G5.out W5 HA.out.below
    have gW5_6 := G6.out W5 HA.out.below
    go_wp2
    have HN := Lib.hid (heap_alloc_new W5 (.cells #[.bool fr, .int .u64 (r1 : Int), .bool fi, .int .u64 (i1 : Int), .bool fa, .int .u64 (a1 : Int), .bool fc, .int .u64 (c1 : Int)] 115))
    have HA5 := Lib.hid (HA.out.keep ((Below.refl W5.heap.size W5).alloc (Nat.le_refl _) (.cells #[.bool fr, .int .u64 (r1 : Int), .bool fi, .int .u64 (i1 : Int), .bool fa, .int .u64 (a1 : Int), .bool fc, .int .u64 (c1 : Int)] 115)))
    have HO5 := Lib.hid (fun g (e : (Value.slice p6 n6 c6).ownBlock = some g) => (show g < W5.heap.size from (HA.out.ob.lt g e).2))
    generalize hW6 : W5.alloc (.cells #[.bool fr, .int .u64 (r1 : Int), .bool fi, .int .u64 (i1 : Int), .bool fa, .int .u64 (a1 : Int), .bool fc, .int .u64 (c1 : Int)] 115) = W6 at *
    have hN6 : W5.heap.size < W6.heap.size := by rw [← hW6]; simp
    clear hW6
    obtain ⟨fs, hfs⟩ : ∃ fs : List (Bool × Nat), fs = [(fr, r1), (fi, i1), (fa, a1), (fc, c1)] := ⟨_, rfl⟩
    have Hfs := Lib.hid hfs
    have Hat := Lib.hid (show ∀ k, k < 4 → ∃ b n, fs[k]? = some (b, n) ∧ n < 2 ^ 64 ∧ (#[.bool fr, .int .u64 (r1 : Int), .bool fi, .int .u64 (i1 : Int), .bool fa, .int .u64 (a1 : Int), .bool fc, .int .u64 (c1 : Int)] : Array Value)[k * 2]? = some (.bool b) ∧ (#[.bool fr, .int .u64 (r1 : Int), .bool fi, .int .u64 (i1 : Int), .bool fa, .int .u64 (a1 : Int), .bool fc, .int .u64 (c1 : Int)] : Array Value)[k * 2 + 1]? = some (.int .u64 (n : Int)) from by
      intro k hk
      have h4 : k = 0 ∨ k = 1 ∨ k = 2 ∨ k = 3 := by omega
      rcases h4 with rfl | rfl | rfl | rfl
      · exact ⟨fr, r1, by rw [hfs]; rfl, hr1, rfl, rfl⟩
      · exact ⟨fi, i1, by rw [hfs]; rfl, hi1, rfl, rfl⟩
      · exact ⟨fa, a1, by rw [hfs]; rfl, ha1, rfl, rfl⟩
      · exact ⟨fc, c1, by rw [hfs]; rfl, hc1, rfl, rfl⟩)
    have Hall := Lib.hid (show ∀ f ∈ fs, f.2 < 2 ^ 64 from by rw [hfs]; intro f hf; simp at hf; rcases hf with rfl | rfl | rfl | rfl <;> assumption)
    have Hlen4 := Lib.hid (show fs.length = 4 by rw [hfs]; rfl)
    have Hp20 := Lib.hid (show (Form.nat k1 ++ Form.nat t1).length ≤ 20 by rw [List.length_append]; have h1 := Form.nat_len10 (n := k1) (by omega); have h2 := Form.nat_len10 ht1; omega)
    clear hfs HA xW5_0 xW5_1 xW5_2 xW5_3 xW5_4 xW5_5 xW5_6 xW5_7 xW5_8 gW5_0 gW5_1 gW5_2 gW5_3 gW5_4 gW5_5 gW5_6
    go_loopw [5, 45] (fun v i wr => ∃ (k : Nat) (p : Option Addr) (n c : Nat), k ≤ 4 ∧ i = .int .i64 (k : Int) ∧ v = .slice p n c ∧ Hid (n = (Form.nat k1 ++ Form.nat t1 ++ natsN (fs.take k)).length) ∧ Hid (Mk w4 wr (.slice p n c) (Form.nat k1 ++ Form.nat t1 ++ natsN (fs.take k))) ∧ Hid (wr.heap[W5.heap.size]? = some (.cells #[.bool fr, .int .u64 (r1 : Int), .bool fi, .int .u64 (i1 : Int), .bool fa, .int .u64 (a1 : Int), .bool fc, .int .u64 (c1 : Int)] 115)) ∧ Hid (∀ g, (Value.slice p n c).ownBlock = some g → g ≠ W5.heap.size)) (fun _ i _ => 4 - (intOf i).toNat)
    case atStart => exact ⟨0, p6, n6, c6, by omega, rfl, rfl, Lib.hid (by rw [Hn6.out]; simp [natsN]), Lib.hid (by simpa [natsN] using HA5.out), HN, Lib.hid (fun g e => by have := HO5.out g e; omega)⟩
    case round =>
      obtain ⟨k, p, n, c, hk, rfl, rfl, Hn, HA, HNb, HO⟩ := hrel
      clear HA5 HO5 HN
      by_cases hlt : k < 4
      · obtain ⟨b, m, hfk, hm, hc0, hc1'⟩ := Hat.out k hlt
        have hra : wr.rangeAt W5.heap.size (k * 2) [.bool b, .int .u64 (m : Int)] := fun j u hu => by
          rw [cell_of_row _ _ _ _ _ _ HNb.out]
          match j, hu with
          | 0, hu => cases hu; exact hc0
          | 1, hu => cases hu; exact hc1'
        have Hra := Lib.hid hra
        have Htk := Lib.hid (show fs.take (k + 1) = fs.take k ++ [(b, m)] by rw [List.take_add_one, hfk]; rfl)
        have hlen : (Form.nat k1 ++ Form.nat t1 ++ natsN (fs.take k)).length ≤ 60 := by
          have h1 := natsN_len (fs.take k) fun f hf => Hall.out f (List.mem_of_mem_take hf)
          have h2 := Hp20.out
          rw [List.length_append]
          rw [List.length_take] at h1
          have := Hlen4.out
          omega
        have Hlen := Lib.hid hlen
        have hnb : W5.heap.size < wr.heap.size := (Array.getElem?_eq_some_iff.1 HNb.out).1
        obtain ⟨W7, HW7, he7, hB7⟩ := stored115 wr b m
        have HZ := Lib.hid (heap_alloc_new wr (.cells #[.bool false, .int .u64 0] 115))
        have z0 : W7.cell? ⟨wr.heap.size, 0, none⟩ = some (.bool b) := by rw [cell_of_row _ _ _ _ _ _ he7]; rfl
        have z1 : W7.cell? ⟨wr.heap.size, 1, none⟩ = some (.int .u64 (m : Int)) := by rw [cell_of_row _ _ _ _ _ _ he7]; rfl
        have HA7 := Lib.hid (HA.out.keep hB7)
        have HNb7 := Lib.hid ((hB7.block _ hnb).trans HNb.out)
        have hone : (#[Value.bool b, .int .u64 (m : Int)]).all (·.oneCell') = true := by simp [Value.oneCell']
        have Hone := Lib.hid hone
        have Hs7 := Lib.hid (Nat.lt_of_lt_of_le hnb hB7.size)
        clear hra hfk hc0 hc1' hlen he7 hB7 hone
        cases b with
        | false =>
          go_wp2_with (first
            | (refine wpList_load_mid rfl 115 (.tmp 47) rfl _ _ rfl [.bool false, .int .u64 (m : Int)] _ Hra.out Try.underlying115 rfl (show _ = some 2 by kernel_rfl) ?_)
            | (refine wpList_alloc_zero rfl 115 rfl _ hz115 ?_)
            | (refine wpList_store_rowTo rfl 115 (.tmp 7) (.tmp 48) rfl rfl _ #[.bool false, .int .u64 (m : Int)] rfl rfl 115 #[.bool false, .int .u64 0] HZ.out (show _ = some 2 by kernel_rfl) rfl Hone.out ?_; rw [HW7.out]))
          go_roundw
          case rel => exact ⟨k + 1, p, n, c, by omega, by go_num, rfl, Lib.hid (by rw [Htk.out, natsN_snoc, if_neg (by simp), List.append_nil]; exact Hn.out), Lib.hid (by rw [Htk.out, natsN_snoc, if_neg (by simp), List.append_nil]; exact HA7.out), HNb7, HO⟩
          case measure => simp [intOf]; omega
        | true =>
          go_wp2_with (first
            | (refine wpList_load_mid rfl 115 (.tmp 47) rfl _ _ rfl [.bool true, .int .u64 (m : Int)] _ Hra.out Try.underlying115 rfl (show _ = some 2 by kernel_rfl) ?_)
            | (refine wpList_alloc_zero rfl 115 rfl _ hz115 ?_)
            | (refine wpList_store_rowTo rfl 115 (.tmp 7) (.tmp 48) rfl rfl _ #[.bool true, .int .u64 (m : Int)] rfl rfl 115 #[.bool false, .int .u64 0] HZ.out (show _ = some 2 by kernel_rfl) rfl Hone.out ?_; rw [HW7.out])
            | (go_at_call 69; go_loud (refine (nat2_w w4.heap.size _ _ m W7 HA7.out.ob hm (by have := Hlen.out; omega) HA7.out.below.size).mono ?_; rintro e W8 ⟨p8, n8, c8, rfl, hn8, ho8, hg8, hnear⟩; have HA8 := Lib.hid (HA7.out.step ho8 hg8); have Hn8 := Lib.hid hn8; have HNb8 := Lib.hid ((hg8.block _ Hs7.out (fun e => HO.out _ e.symm rfl)).trans HNb7.out); have HO8 := Lib.hid (fun g (e : (Value.slice p8 n8 c8).ownBlock = some g) => (show g ≠ W5.heap.size from by
                rcases hnear with h | ⟨g', h, hg'⟩
                · exact HO.out g (h.symm.trans e)
                · rw [h] at e; cases e; have := Hs7.out; omega)); clear hn8 ho8 hg8 hnear)))
          go_roundw
          case rel => exact ⟨k + 1, p8, n8, c8, by omega, by go_num, rfl, Lib.hid (by rw [Htk.out, natsN_snoc, if_pos rfl, ← List.append_assoc]; exact Hn8.out), Lib.hid (by rw [Htk.out, natsN_snoc, if_pos rfl, ← List.append_assoc]; exact HA8.out), HNb8, HO8⟩
          case measure => simp [intOf]; omega
      · have hk4 : k = 4 := by omega
        subst hk4
        have htk : fs.take 4 = [(fr, r1), (fi, i1), (fa, a1), (fc, c1)] := by rw [Hfs.out]; rfl
        rw [htk] at HA Hn
        have Hlen := Lib.hid (show (Form.nat k1 ++ Form.nat t1 ++ natsN [(fr, r1), (fi, i1), (fa, a1), (fc, c1)]).length ≤ 60 by
          have h1 := natsN_len fs Hall.out
          have h2 := Hp20.out
          rw [Hfs.out] at h1
          rw [List.length_append]
          simp only [List.length_cons, List.length_nil] at h1
          omega)
        clear htk HNb HO Hat Hall Hlen4 Hp20 Hfs hN6
        generalize hpre : Form.nat k1 ++ Form.nat t1 ++ natsN [(fr, r1), (fi, i1), (fa, a1), (fc, c1)] = pre at *
        have Hpre := Lib.hid hpre
        clear hpre
        have xw_0 := X0.out wr HA.out.below
        have xw_1 := X1.out wr HA.out.below
        have xw_2 := X2.out wr HA.out.below
        have xw_3 := X3.out wr HA.out.below
        have xw_4 := X4.out wr HA.out.below
        have xw_5 := X5.out wr HA.out.below
        have xw_6 := X6.out wr HA.out.below
        have xw_7 := X7.out wr HA.out.below
        have xw_8 := X8.out wr HA.out.below
        have gw_4 := G4.out wr HA.out.below
        have gw_5 := G5.out wr HA.out.below
        have gw_6 := G6.out wr HA.out.below
        go_wp2_with (go_at_call 69; go_loud (refine (nat2_w w4.heap.size _ _ L1.length wr HA.out.ob (by omega) (by have := Hlen.out; omega) HA.out.below.size).mono ?_; rintro e W8 ⟨p8, n8, c8, rfl, hn8, ho8, hg8, hnear⟩; have HA8 := Lib.hid (HA.out.step ho8 hg8); have Hn8 := Lib.hid hn8; have xq7 := X7.out W8 HA8.out.below; clear hn8 ho8 hg8 hnear))
        have Hlen8 := Lib.hid (show (pre ++ Form.nat L1.length).length ≤ 70 by rw [List.length_append]; have h1 := Form.nat_len10 (n := L1.length) (by omega); have := Hlen.out; omega)
        generalize hp2 : pre ++ Form.nat L1.length = pre2 at *
        have Hp2 := Lib.hid hp2
        clear hp2 HA Hn xq7
        go_loopw [5, 73] (fun v i wr => ∃ (k : Nat) (p : Option Addr) (n c : Nat), k ≤ L1.length ∧ i = .int .i64 (k : Int) ∧ v = .slice p n c ∧ Hid (n = (pre2 ++ entsN (L1.take k)).length) ∧ Hid (Mk w4 wr (.slice p n c) (pre2 ++ entsN (L1.take k)))) (fun _ i _ => L1.length - (intOf i).toNat)
        case atStart => exact ⟨0, p8, n8, c8, Nat.zero_le _, rfl, rfl, Lib.hid (by rw [Hn8.out]; simp [entsN]), Lib.hid (by simpa [entsN] using HA8.out)⟩
        case round =>
          obtain ⟨k, p, n, c, hk, rfl, rfl, Hn, HA⟩ := hrel
          clear HA8 Hn8
          by_cases hlt : k < L1.length
          · obtain ⟨b, off, c2, d, hv, _, hbl, q0, q1, q3, htl⟩ := H0.out.l.elemF k hlt
            cases hv
            have hra : w.rangeAt b (off + k * 2) [.int .u64 ((L1[k].1 : Nat) : Int), d] := fun j u hu => by
              match j, hu with
              | 0, hu => cases hu; exact q0
              | 1, hu => cases hu; exact q1
            have hBw : Below w.heap.size w wr := HB4.out.trans (HA.out.below.mono HB4.out.size)
            have Hra := Lib.hid (rangeAt_below hra hbl hBw)
            have Htk := Lib.hid (show L1.take (k + 1) = L1.take k ++ [(L1[k].1, L1[k].2)] by rw [List.take_succ_eq_append_getElem hlt])
            have hll := HLd.out L1[k] (List.getElem_mem _)
            have Hq3 := Lib.hid q3
            have hlen : (pre2 ++ entsN (L1.take k)).length ≤ 70 + 3020 * 16 := by
              have h1 := entsN_len (L1.take k) fun e he => ⟨(by
                obtain ⟨i, hi, rfl⟩ := List.getElem_of_mem (List.mem_of_mem_take he)
                obtain ⟨_, _, _, _, _, _, _, _, _, _, h⟩ := H0.out.l.elemF i hi
                exact h), HLd.out e (List.mem_of_mem_take he)⟩
              rw [List.length_append]
              rw [List.length_take] at h1
              have := Hlen8.out
              omega
            have Hlenk := Lib.hid hlen
            generalize L1[k].1 = t at *
            generalize L1[k].2 = le at *
            obtain ⟨pe, ce, rfl⟩ : ∃ p c, d = .slice p le.length c := by obtain ⟨p, c, h1, _⟩ := q3.rd; exact ⟨p, c, h1⟩
            obtain ⟨W7, HW7, he7, hB7⟩ := stored53 wr t (.slice pe le.length ce)
            have HZ := Lib.hid (heap_alloc_new wr (.cells #[.int .u64 0, .slice none 0 0] 53))
            have HE7 := Lib.hid he7
            have HA7 := Lib.hid (HA.out.keep hB7)
            have hown : ∀ g, (Value.slice p n c).ownBlock = some g → g < wr.heap.size := fun g e => (HA.out.ob.lt g e).2
            have Hown := Lib.hid hown
            have Hq7 := Lib.hid ((q3.keeps hBw.block).keeps hB7.block)
            have hN7 := he7.lt
            clear q0 q1 q3 hra hbl hBw hlen he7 hB7 hown
            go_wp2_with (first
              | (refine wpList_load_mid rfl 53 (.tmp 75) rfl _ _ rfl [.int .u64 (t : Int), .slice pe le.length ce] _ Hra.out Try.underlying53 rfl (show _ = some 2 by kernel_rfl) ?_)
              | (refine wpList_alloc_zero rfl 53 rfl _ hz53 ?_)
              | (refine wpList_store_rowTo rfl 53 (.tmp 9) (.tmp 76) rfl rfl _ #[.int .u64 (t : Int), .slice pe le.length ce] rfl rfl 53 #[.int .u64 0, .slice none 0 0] HZ.out (show _ = some 2 by kernel_rfl) rfl (ent_one _ _ _ _) ?_; rw [HW7.out]))
            have HA7d := Lib.hid (HA7.out.keep (Below.refl W7.heap.size W7).drew)
            have HE7d := Lib.hid (show W7.drew.heap[wr.heap.size]? = some (.cells #[.int .u64 (t : Int), .slice pe le.length ce] 53) from HE7.out)
            have Hq7d := Lib.hid (Hq7.out.keeps (Keeps.refl W7).drew)
            have hs7 : W7.drew.heap.size = W7.heap.size := rfl
            have y0 : W7.cell? ⟨wr.heap.size, 0, none⟩ = some (.int .u64 (t : Int)) := by (rw [cell_of_row _ _ _ _ _ _ HE7.out]; rfl)
            have y1' : W7.cell? ⟨wr.heap.size, 1, none⟩ = some (.slice pe le.length ce) := by (rw [cell_of_row _ _ _ _ _ _ HE7.out]; rfl)
            have Hne := Lib.hid (show (Value.slice p n c).ownBlock ≠ some wr.heap.size from fun q => Nat.lt_irrefl _ (Hown.out _ q))
            have Hoff := Lib.hid (show ∀ b, b < w.heap.size → (Value.slice p n c).ownBlock ≠ some b from fun b h2 q => by have := (HA7.out.ob.lt b q).1; have := HB4.out.size; omega)
            have H69 := Lib.hid (mk_nat HA7d.out htl (by have := Hlenk.out; omega))
            have H71 := Lib.hid (fun (W : World) (v : Value) (hm : Mk w4 W v (pre2 ++ entsN (L1.take k) ++ Form.nat t)) (hd : DatA W (fun b => b < w.heap.size) (.slice pe le.length ce) le) => mk_text hm hd HB4.out.size (by have := Hlenk.out; have := Form.nat_len10 htl; rw [List.length_append]; omega) (by omega))
            go_region_with (first
              | (go_at_call 69; go_loud (refine (H69.out).mono ?_; rintro e W8 ⟨p9, n9, c9, rfl, hn9, hm9, hg9⟩; have HA9 := Lib.hid hm9; have y1' := ent_grown HE7d.out hg9 Hne.out; have Hq9 := Lib.hid (Hq7d.out.grown hg9 (fun b hb q => Hoff.out b hb q)); clear hn9 hm9 hg9))
              | (go_at_call 71; go_loud (refine (H71.out _ _ HA9.out Hq9.out).mono ?_; rintro e W10 ⟨p10, n10, c10, rfl, hn10, hm10⟩; have HA10 := Lib.hid hm10; have Hn10 := Lib.hid hn10; clear hn10 hm10)))
            all_goals
              go_wp2
              go_roundw
              case rel => exact ⟨k + 1, p10, n10, c10, by omega, by go_num, rfl, Lib.hid (by rw [Htk.out, entsN_snoc, ← List.append_assoc, ← List.append_assoc]; exact Hn10.out), Lib.hid (by rw [Htk.out, entsN_snoc, ← List.append_assoc, ← List.append_assoc]; exact HA10.out)⟩
              case measure => simp [intOf]; omega
          · have hk2 : k = L1.length := by omega
            have h1 := HA.out
            have h2 := Hn.out
            rw [hk2, List.take_length] at h1 h2
            have HA9 := Lib.hid h1
            have Hn9 := Lib.hid h2
            have gq6 := G6.out wr h1.below
            clear h1 h2
            go_wp2
            go_ret2
            exact ⟨_, _, _, rfl, by rw [Hpre.out, ← List.append_assoc, Hp2.out]; exact Hn9.out, by rw [Hpre.out, ← List.append_assoc, Hp2.out]; exact OB.lower HA9.out.ob HB4.out.size, HB4.out.trans (HA9.out.below.mono HB4.out.size)⟩
  · rfl
  · kernel_rfl
end Go.Proofs.Yteellfgiejnigaa
/- What notes.Bytes says of any note. -/
namespace Go.Proofs.Yteellfgiejnigaa
open Go.ChangeShapes Go.WideShapes Go.ChangeAt Go.RowKit
set_option linter.unusedVariables false
/-- A note's form. -/
def formN (x : Nt) : List UInt8 := (Form.nat x.kind ++ Form.nat x.term ++ natsN [(hasR x.kind, x.round), (hasI x.kind, x.index), (hasA x.kind, x.at_), (hasC x.kind, x.commit)]) ++
  (if hasY x.kind then Form.flag x.yes else if hasL x.kind then Form.nat x.list.length ++ entsN x.list else if hasD x.kind then Form.text x.data else [])
def BytesP (x : Nt) (s : Nat) (r : Ending) (w' : World) : Prop :=
  (mayN x = true ∧ ∃ p n c, r = .returned (.tuple #[.slice p n c, .int .i64 0]) ∧ n = (formN x).length ∧ OB w' s 5 (.slice p n c) (formN x)) ∨ (mayN x = false ∧ r = .returned (.tuple #[.slice none 0 0, .int .i64 2]))
theorem anyLong_no {L : List Ent} (h : anyLong L = false) : ∀ e ∈ L, e.2.length ≤ 3000 := by
  intro e he
  unfold anyLong at h
  rw [List.any_eq_false] at h
  have := h e he
  simp at this
  omega
theorem mayN_open {x : Nt} (h : mayN x = true) : 1 ≤ x.kind ∧ x.kind ≤ 7 ∧ (hasR x.kind = false → x.round = 0) ∧ (hasI x.kind = false → x.index = 0) ∧ (hasA x.kind = false → x.at_ = 0) ∧ (hasC x.kind = false → x.commit = 0) ∧ x.index ≤ 4611686018427387904 ∧ x.commit ≤ 4611686018427387904 ∧
  (hasY x.kind = false → x.yes = false) ∧ (hasL x.kind = false → x.list.length = 0) ∧ (hasD x.kind = false → x.data.length = 0) ∧ x.list.length ≤ 16 ∧ x.data.length ≤ 524288 ∧ anyLong x.list = false := by
  unfold mayN at h
  exact of_decide_eq_true h
set_option maxRecDepth 100000 in
set_option maxHeartbeats 3200000 in
theorem bytes_no_w (k1 t1 r1 i1 a1 c1 : Nat) (y1 : Bool) (n1 n2 : Nat) (pl pd : Option Addr) (cl cd : Nat) (w : World)
    (hM : ∀ W, Below w.heap.size w W → Calls Try.prog 46 #[.agg #[.int .u8 (k1 : Int), .int .u64 (t1 : Int), .int .u64 (r1 : Int), .int .u64 (i1 : Int), .int .u64 (a1 : Int), .int .u64 (c1 : Int), .bool y1, .slice pl n1 cl, .slice pd n2 cd]] W fun e w' => e = .returned (.bool false) ∧ Below W.heap.size W w') :
    Calls Try.prog 18 #[.agg #[.int .u8 (k1 : Int), .int .u64 (t1 : Int), .int .u64 (r1 : Int), .int .u64 (i1 : Int), .int .u64 (a1 : Int), .int .u64 (c1 : Int), .bool y1, .slice pl n1 cl, .slice pd n2 cd]] w fun r w' => r = .returned (.tuple #[.slice none 0 0, .int .i64 2]) ∧ Below w.heap.size w w' := by
  have HB1 := Lib.hid ((Below.refl w.heap.size w).alloc (Nat.le_refl _) (.cells #[.int .u8 (k1 : Int), .int .u64 (t1 : Int), .int .u64 (r1 : Int), .int .u64 (i1 : Int), .int .u64 (a1 : Int), .int .u64 (c1 : Int), .bool y1, .slice pl n1 cl, .slice pd n2 cd] 31))
  have HMa := Lib.hid (hM _ HB1.out)
  have Hnew := Lib.hid (heap_alloc_new w (.cells #[.int .u8 (k1 : Int), .int .u64 (t1 : Int), .int .u64 (r1 : Int), .int .u64 (i1 : Int), .int .u64 (a1 : Int), .int .u64 (c1 : Int), .bool y1, .slice pl n1 cl, .slice pd n2 cd] 31))
  clear hM
  go_enter Try.func18, Try.ntmps18
  go_wp2_with (first
    | (refine wpList_load_row rfl 31 (.tmp 1) rfl _ rfl _ _ _ _ Hnew.out Try.underlying31 rfl (show _ = some 9 by kernel_rfl) ?_)
    | (go_at_call 46; go_loud (refine (HMa.out).mono ?_; rintro e w2 ⟨rfl, hB⟩; have HB2 := Lib.hid (HB1.out.trans (hB.mono HB1.out.size)); clear hB HMa)))
  go_ret2
  exact ⟨rfl, HB2.out⟩
theorem noteBytes_w (x : Nt) (lv dv : Value) (S : Foot) (w : World) (h : NtA w S lv dv x) (hn : x.list.length ≤ 1000000) : Calls Try.prog 18 #[ntv x lv dv] w fun r w' => BytesP x w.heap.size r w' ∧ Below w.heap.size w w' := by
  cases hm : mayN x with
  | false =>
    obtain ⟨⟨pl, cl, rfl⟩, ⟨pd, cd, rfl⟩⟩ := h.forms
    have hc := bytes_no_w x.kind x.term x.round x.index x.at_ x.commit x.yes x.list.length x.data.length pl pd cl cd w (fun W hB => by
      have := nmay_w x _ _ S W (h.keeps hB.block) hn
      rw [hm] at this
      exact this)
    exact hc.mono fun r w' ⟨he, hB⟩ => ⟨.inr ⟨hm, he⟩, hB⟩
  | true =>
    have ho := mayN_open hm
    have hM : ∀ W, NtA W S lv dv x → Calls Try.prog 46 #[ntv x lv dv] W fun e w' => e = .returned (.bool true) ∧ Below W.heap.size W w' := fun W hW => by
      have := nmay_w x lv dv S W hW hn
      rw [hm] at this
      exact this
    obtain ⟨k1, t1, r1, i1, a1, c1, y1, L1, D1⟩ := x
    obtain ⟨h1, h7, _, _, _, _, _, _, _, _, _, hL, hD, hLg⟩ := ho
    dsimp only at h1 h7 hL hD hLg
    have hLd := anyLong_no hLg
    have hk : k1 = 1 ∨ k1 = 2 ∨ k1 = 3 ∨ k1 = 4 ∨ k1 = 5 ∨ k1 = 6 ∨ k1 = 7 := by omega
    rcases hk with rfl | rfl | rfl | rfl | rfl | rfl | rfl
    · have e : formN ⟨1, t1, r1, i1, a1, c1, y1, L1, D1⟩ = (Form.nat 1 ++ Form.nat t1 ++ natsN [(true, r1), (true, i1), (true, a1), (false, c1)]) ++ [] := rfl
      rw [List.append_nil] at e
      refine (bytes_000_w 1 t1 r1 i1 a1 c1 y1 L1 D1 true true true false lv dv S w h hL hLd hD hM (fun W => fields1_w W)).mono fun r w' ⟨p, n, c, he, hn', hob, hB⟩ => ⟨.inl ⟨hm, p, n, c, he, by rw [e]; exact hn', by rw [e]; exact hob⟩, hB⟩
    · have e : formN ⟨2, t1, r1, i1, a1, c1, y1, L1, D1⟩ = (Form.nat 2 ++ Form.nat t1 ++ natsN [(true, r1), (false, i1), (false, a1), (false, c1)]) ++ Form.flag y1 := rfl
      refine (bytes_y_w 2 t1 r1 i1 a1 c1 y1 L1 D1 true false false false lv dv S w h hL hLd hD hM (fun W => fields2_w W)).mono fun r w' ⟨p, n, c, he, hn', hob, hB⟩ => ⟨.inl ⟨hm, p, n, c, he, by rw [e]; exact hn', by rw [e]; exact hob⟩, hB⟩
    · have e : formN ⟨3, t1, r1, i1, a1, c1, y1, L1, D1⟩ = (Form.nat 3 ++ Form.nat t1 ++ natsN [(false, r1), (true, i1), (true, a1), (false, c1)]) ++ [] := rfl
      rw [List.append_nil] at e
      refine (bytes_000_w 3 t1 r1 i1 a1 c1 y1 L1 D1 false true true false lv dv S w h hL hLd hD hM (fun W => fields3_w W)).mono fun r w' ⟨p, n, c, he, hn', hob, hB⟩ => ⟨.inl ⟨hm, p, n, c, he, by rw [e]; exact hn', by rw [e]; exact hob⟩, hB⟩
    · have e : formN ⟨4, t1, r1, i1, a1, c1, y1, L1, D1⟩ = (Form.nat 4 ++ Form.nat t1 ++ natsN [(false, r1), (false, i1), (false, a1), (false, c1)]) ++ Form.flag y1 := rfl
      refine (bytes_y_w 4 t1 r1 i1 a1 c1 y1 L1 D1 false false false false lv dv S w h hL hLd hD hM (fun W => fields4_w W)).mono fun r w' ⟨p, n, c, he, hn', hob, hB⟩ => ⟨.inl ⟨hm, p, n, c, he, by rw [e]; exact hn', by rw [e]; exact hob⟩, hB⟩
    · have e : formN ⟨5, t1, r1, i1, a1, c1, y1, L1, D1⟩ = (Form.nat 5 ++ Form.nat t1 ++ natsN [(false, r1), (true, i1), (true, a1), (true, c1)]) ++ (Form.nat L1.length ++ entsN L1) := rfl
      refine (bytes_l_w 5 t1 r1 i1 a1 c1 y1 L1 D1 false true true true lv dv S w h hL hLd hD hM (fun W => fields5_w W)).mono fun r w' ⟨p, n, c, he, hn', hob, hB⟩ => ⟨.inl ⟨hm, p, n, c, he, by rw [e]; exact hn', by rw [e]; exact hob⟩, hB⟩
    · have e : formN ⟨6, t1, r1, i1, a1, c1, y1, L1, D1⟩ = (Form.nat 6 ++ Form.nat t1 ++ natsN [(false, r1), (true, i1), (false, a1), (false, c1)]) ++ Form.flag y1 := rfl
      refine (bytes_y_w 6 t1 r1 i1 a1 c1 y1 L1 D1 false true false false lv dv S w h hL hLd hD hM (fun W => fields6_w W)).mono fun r w' ⟨p, n, c, he, hn', hob, hB⟩ => ⟨.inl ⟨hm, p, n, c, he, by rw [e]; exact hn', by rw [e]; exact hob⟩, hB⟩
    · have e : formN ⟨7, t1, r1, i1, a1, c1, y1, L1, D1⟩ = (Form.nat 7 ++ Form.nat t1 ++ natsN [(false, r1), (true, i1), (true, a1), (false, c1)]) ++ Form.text D1 := rfl
      refine (bytes_d_w 7 t1 r1 i1 a1 c1 y1 L1 D1 false true true false lv dv S w h hL hLd hD hM (fun W => fields7_w W)).mono fun r w' ⟨p, n, c, he, hn', hob, hB⟩ => ⟨.inl ⟨hm, p, n, c, he, by rw [e]; exact hn', by rw [e]; exact hob⟩, hB⟩
end Go.Proofs.Yteellfgiejnigaa
/- Plain: two notes that may be have one form just if they are alike. -/
namespace Go.Proofs.Yteellfgiejnigaa
open Go.ChangeShapes Go.WideShapes Go.ChangeAt Go.RowKit
set_option linter.unusedVariables false
end Go.Proofs.Yteellfgiejnigaa
/- Walks of the notes' law: what is large, what is known. -/
namespace Go.Proofs.Yteellfgiejnigaa
open Go.ChangeShapes Go.WideShapes Go.ChangeAt Go.RowKit
set_option linter.unusedVariables false
/-- Is this more than is looked at? -/
def largeN (x : Nt) : Bool := decide (40 < x.list.length ∨ (20000 < x.data.length ∧ x.data.length ≤ 524288) ∨ 60000 < dsum x.list)
set_option maxRecDepth 100000 in
set_option maxHeartbeats 3200000 in
theorem large_w (x : Nt) (lv dv : Value) (S : Foot) (w : World) (h : NtA w S lv dv x) (hd : ∀ e ∈ x.list, e.2.length ≤ 140737488351232) : Calls Try.prog 16 #[ntv x lv dv] w fun r w' => r = .returned (.bool (largeN x)) ∧ Below w.heap.size w w' := by
  obtain ⟨⟨pl, cl, rfl⟩, ⟨pd, cd, rfl⟩⟩ := h.forms
  have H := Lib.hid h.l
  obtain ⟨k1, t1, r1, i1, a1, c1, y1, L1, D1⟩ := x
  unfold ntv
  dsimp only at *
  have HB := Lib.hid ((Below.refl w.heap.size w).alloc (Nat.le_refl _) (.cells #[.int .u8 (k1 : Int), .int .u64 (t1 : Int), .int .u64 (r1 : Int), .int .u64 (i1 : Int), .int .u64 (a1 : Int), .int .u64 (c1 : Int), .bool y1, .slice pl L1.length cl, .slice pd D1.length cd] 31))
  have HK := Lib.hid (H.out.keeps HB.out.block)
  have Hd := Lib.hid hd
  have Hlg := Lib.hid (show largeN ⟨k1, t1, r1, i1, a1, c1, y1, L1, D1⟩ = decide (40 < L1.length ∨ (20000 < D1.length ∧ D1.length ≤ 524288) ∨ 60000 < dsum L1) from rfl)
  clear h hd H
  by_cases g1 : 40 < L1.length
  · have e1 : decide (40 < L1.length) = true := by simp [g1]
    have e2 : decide ((40 : Int) < (L1.length : Int)) = true := by simp; omega
    have hq : largeN ⟨k1, t1, r1, i1, a1, c1, y1, L1, D1⟩ = true := by rw [Hlg.out]; simp [g1]
    rw [hq]
    clear hq g1
    go_enter Try.func16, Try.ntmps16
    go_wp2
    go_ret
    exact ⟨rfl, HB.out⟩
  · have e1 : decide (40 < L1.length) = false := by simp; omega
    have e2 : decide ((40 : Int) < (L1.length : Int)) = false := by simp; omega
    by_cases g2 : 20000 < D1.length ∧ D1.length ≤ 524288
    · have e3 : decide (20000 < D1.length) = true := by simp [g2.1]
      have e4 : decide ((20000 : Int) < (D1.length : Int)) = true := by simp; omega
      have e5 : decide (D1.length ≤ 524288) = true := by simp [g2.2]
      have e6 : decide ((D1.length : Int) ≤ 524288) = true := by simp; omega
      have hq : largeN ⟨k1, t1, r1, i1, a1, c1, y1, L1, D1⟩ = true := by rw [Hlg.out]; simp [g2.1, g2.2]
      rw [hq]
      clear hq g1 g2
      go_enter Try.func16, Try.ntmps16
      go_wp2
      go_ret
      exact ⟨rfl, HB.out⟩
    · have hq : largeN ⟨k1, t1, r1, i1, a1, c1, y1, L1, D1⟩ = decide (60000 < dsum L1) := by rw [Hlg.out]; exact decide_eq_decide.2 ⟨fun e => e.elim (fun e => absurd e g1) (fun e => e.elim (fun e => absurd e g2) id), fun e => .inr (.inr e)⟩
      have Hq := Lib.hid hq
      have hway : (¬ 20000 < D1.length) ∨ (20000 < D1.length ∧ 524288 < D1.length) := by omega
      clear g2 hq Hlg
      have key : ∀ (d3 : Bool), decide (20000 < D1.length) = d3 → decide ((20000 : Int) < (D1.length : Int)) = d3 → (d3 = true → decide (D1.length ≤ 524288) = false ∧ decide ((D1.length : Int) ≤ 524288) = false) →
          Calls Try.prog 16 #[.agg #[.int .u8 (k1 : Int), .int .u64 (t1 : Int), .int .u64 (r1 : Int), .int .u64 (i1 : Int), .int .u64 (a1 : Int), .int .u64 (c1 : Int), .bool y1, .slice pl L1.length cl, .slice pd D1.length cd]] w fun r w' => r = .returned (.bool (largeN ⟨k1, t1, r1, i1, a1, c1, y1, L1, D1⟩)) ∧ Below w.heap.size w w' := by
        intro d3 f1 f2 f3
        have main : ∀ (d4 : Bool), (d3 = true → decide (D1.length ≤ 524288) = false ∧ decide ((D1.length : Int) ≤ 524288) = false) → True := fun _ _ => trivial
        cases d3 with
        | false =>
          clear main f3
          go_enter Try.func16, Try.ntmps16
          go_wp2
          go_loop [3, 4] (fun n i => ∃ k : Nat, k ≤ L1.length ∧ i = .int .i64 (k : Int) ∧ n = .int .i64 ((dsum (L1.take k) : Nat) : Int)) (fun _ i => L1.length - (intOf i).toNat)
          case atStart => exact ⟨0, Nat.zero_le _, rfl, by simp [dsum]⟩
          case round =>
            obtain ⟨k, hk, rfl, rfl⟩ := hrel
            have hsb : dsum (L1.take k) ≤ 40 * 140737488351232 := by
              refine Nat.le_trans (dsum_le (M := 140737488351232) _ fun e he => Hd.out e (List.mem_of_mem_take he)) ?_
              rw [List.length_take]; exact Nat.mul_le_mul_right _ (by omega)
            by_cases hlt : k < L1.length
            · obtain ⟨b2, off2, c3, d, hv, hc0, hc1, hrd⟩ := HK.out.both k hlt
              cases hv
              have hdl := Hd.out L1[k] (List.getElem_mem _)
              have Hsm := Lib.hid (show dsum (L1.take (k + 1)) = dsum (L1.take k) + L1[k].2.length by rw [List.take_succ_eq_append_getElem hlt, dsum_append]; simp [dsum])
              obtain ⟨pd2, cd2, rfl⟩ : ∃ p c, d = .slice p L1[k].2.length c := by obtain ⟨p, c, h1, _⟩ := hrd; exact ⟨p, c, h1⟩
              generalize L1[k].2.length = q at *
              generalize dsum (L1.take k) = s1 at *
              clear hrd hc0
              go_wp2
              go_round
              case rel => exact ⟨k + 1, by omega, by go_num, by rw [Hsm.out]; go_num⟩
              case measure => simp [intOf]; omega
            · have hk2 : k = L1.length := by omega
              subst hk2
              rw [List.take_length] at *
              have e4 : decide ((60000 : Int) < ((dsum L1 : Nat) : Int)) = decide (60000 < dsum L1) := decide_eq_decide.2 (by omega)
              have E4 := Lib.hid e4
              clear e4
              generalize dsum L1 = s1 at *
              go_wp2
              go_ret
              refine ⟨?_, HB.out⟩
              rw [Hq.out]
              first | rfl | (simp; omega)
        | true =>
          obtain ⟨f4, f5⟩ := f3 rfl
          clear main f3
          go_enter Try.func16, Try.ntmps16
          go_wp2
          go_loop [3, 4] (fun n i => ∃ k : Nat, k ≤ L1.length ∧ i = .int .i64 (k : Int) ∧ n = .int .i64 ((dsum (L1.take k) : Nat) : Int)) (fun _ i => L1.length - (intOf i).toNat)
          case atStart => exact ⟨0, Nat.zero_le _, rfl, by simp [dsum]⟩
          case round =>
            obtain ⟨k, hk, rfl, rfl⟩ := hrel
            have hsb : dsum (L1.take k) ≤ 40 * 140737488351232 := by
              refine Nat.le_trans (dsum_le (M := 140737488351232) _ fun e he => Hd.out e (List.mem_of_mem_take he)) ?_
              rw [List.length_take]; exact Nat.mul_le_mul_right _ (by omega)
            by_cases hlt : k < L1.length
            · obtain ⟨b2, off2, c3, d, hv, hc0, hc1, hrd⟩ := HK.out.both k hlt
              cases hv
              have hdl := Hd.out L1[k] (List.getElem_mem _)
              have Hsm := Lib.hid (show dsum (L1.take (k + 1)) = dsum (L1.take k) + L1[k].2.length by rw [List.take_succ_eq_append_getElem hlt, dsum_append]; simp [dsum])
              obtain ⟨pd2, cd2, rfl⟩ : ∃ p c, d = .slice p L1[k].2.length c := by obtain ⟨p, c, h1, _⟩ := hrd; exact ⟨p, c, h1⟩
              generalize L1[k].2.length = q at *
              generalize dsum (L1.take k) = s1 at *
              clear hrd hc0
              go_wp2
              go_round
              case rel => exact ⟨k + 1, by omega, by go_num, by rw [Hsm.out]; go_num⟩
              case measure => simp [intOf]; omega
            · have hk2 : k = L1.length := by omega
              subst hk2
              rw [List.take_length] at *
              generalize dsum L1 = s1 at *
              go_wp2
              go_ret
              refine ⟨?_, HB.out⟩
              rw [Hq.out]
              first | rfl | (simp; omega)
      rcases hway with g3 | ⟨g3, g4⟩
      · exact key false (by simp; omega) (by simp; omega) (fun h => by cases h)
      · exact key true (by simp; omega) (by simp; omega) (fun _ => ⟨by simp; omega, by simp; omega⟩)
set_option maxRecDepth 100000 in
set_option maxHeartbeats 3200000 in
theorem known23_w (w : World) : Calls Try.prog 17 #[] w fun e w' => e = .returned (.bool true) ∧ Below w.heap.size w w' := by
  have hA : NtA w (fun _ => True) (.slice none 0 0) (.slice none 0 0) ⟨3, 3, 0, 5, 2, 0, false, [], []⟩ := ⟨EsR.nil _ _, ⟨(OB.nil w 0 5).rd, (fun g e _ => by cases e), (fun g e _ => by cases e), (fun b off c e => by cases e)⟩, by decide, by decide, by decide, by decide, by decide, by decide⟩
  have HC := Lib.hid (show Calls Try.prog 18 #[.agg #[.int .u8 3, .int .u64 3, .int .u64 0, .int .u64 5, .int .u64 2, .int .u64 0, .bool false, .slice none 0 0, .slice none 0 0]] w fun r w' => BytesP ⟨3, 3, 0, 5, 2, 0, false, [], []⟩ w.heap.size r w' ∧ Below w.heap.size w w' from noteBytes_w _ _ _ _ w hA (by decide))
  have hm : mayN ⟨3, 3, 0, 5, 2, 0, false, [], []⟩ = true := by decide +kernel
  have hf : formN ⟨3, 3, 0, 5, 2, 0, false, [], []⟩ = [3, 3, 5, 2] := by
    show (Form.nat 3 ++ Form.nat 3 ++ ([] ++ (Form.nat 5 ++ (Form.nat 2 ++ ([] ++ []))))) ++ [] = _
    rw [show Form.nat 3 = [3] from Form.nat_small (by decide), show Form.nat 5 = [5] from Form.nat_small (by decide), show Form.nat 2 = [2] from Form.nat_small (by decide)]
    rfl
  have hs := str_beq [3, 3, 5, 2] [3, 3, 5, 2]
  rw [decide_eq_true rfl] at hs
  go_enter Try.func17, Try.ntmps17
  go_wp2_with (go_at_call 18; go_loud (refine (HC.out).mono ?_; rintro e w1 ⟨hb, hB⟩; rcases hb with ⟨_, p, n, c, rfl, hn, ho⟩ | ⟨hb, _⟩; rotate_left; (rw [hm] at hb; cases hb); rw [hf] at hn ho; have hn4 : n = 4 := hn; subst hn4; have hc0 := run_convert_str (P := Try.prog) ho.rd 29 5 9 Try.underlying29 Try.underlying5 Try.underlying9; have hc : (convert 29 9 (.slice p 4 c)).run Try.prog w1 = .ok (.string ⟨#[3, 3, 5, 2]⟩) w1 := hc0; have HB := Lib.hid hB; clear hB ho hc0 hn))
  go_ret
  exact ⟨rfl, HB.out⟩
end Go.Proofs.Yteellfgiejnigaa
