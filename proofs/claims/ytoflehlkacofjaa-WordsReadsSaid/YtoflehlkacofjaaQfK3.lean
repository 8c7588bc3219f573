/- K3: S6, S7, S8, S9, S10, S17, S20. -/
import Derived.Test.YtoflehlkacofjaaQfK2
import Derived.Deep.RegionHeld3
import Derived.Great.BuildSlice
/- The form of a contract's data: Put. -/
namespace Go.Proofs.Ytoflehlkacofjaa
open Go.ChangeShapes Go.WideShapes Go.ChangeAt Go.RowKit
set_option linter.unusedVariables false
namespace Sp
def hd (s : Sp) (i : Nat) : Int := if i = 0 then s.number else if i = 1 then s.route else if i = 2 then s.tick else if i = 3 then s.lot else if i = 4 then s.band else s.limit
def hdRow (s : Sp) : Array Value := #[.int .i64 s.number, .int .i64 s.route, .int .i64 s.tick, .int .i64 s.lot, .int .i64 s.band, .int .i64 s.limit]
theorem hd_at (s : Sp) (k : Nat) (hk : k < 6) : s.hdRow[k]? = some (.int .i64 (s.hd k)) := by
  have h : k = 0 ∨ k = 1 ∨ k = 2 ∨ k = 3 ∨ k = 4 ∨ k = 5 := by omega
  rcases h with rfl | rfl | rfl | rfl | rfl | rfl <;> rfl
def formA (s : Sp) (k : Nat) : List UInt8 := (List.range k).flatMap fun i => Form.nat (Form.u64 (s.hd i))
def formB (s : Sp) (k : Nat) : List UInt8 := (List.range k).flatMap fun i => Form.nat (Form.fold (s.sh i))
theorem formA_succ (s : Sp) (k : Nat) : s.formA (k + 1) = s.formA k ++ Form.nat (Form.u64 (s.hd k)) := by unfold formA; rw [List.range_succ, List.flatMap_append]; simp
theorem formB_succ (s : Sp) (k : Nat) : s.formB (k + 1) = s.formB k ++ Form.nat (Form.fold (s.sh k)) := by unfold formB; rw [List.range_succ, List.flatMap_append]; simp
theorem formA_le (s : Sp) : ∀ k, (s.formA k).length ≤ 10 * k := by
  intro k
  induction k with
  | zero => exact Nat.le_refl _
  | succ k ih => rw [formA_succ, List.length_append]; have := Form.nat_len10 (Form.u64_lt (s.hd k)); omega
theorem formB_le (s : Sp) (h : s.ok) : ∀ k, (s.formB k).length ≤ 10 * k := by
  intro k
  induction k with
  | zero => exact Nat.le_refl _
  | succ k ih => rw [formB_succ, List.length_append]; have := Form.nat_len10 (Form.fold_lt (h.sh k).1 (h.sh k).2); omega
def form (s : Sp) : List UInt8 := s.formA 6 ++ s.formB 16 ++ Form.nat (Form.u64 s.credit) ++ Form.nat (Form.u64 s.last) ++ Form.nat (Form.u64 s.first)
end Sp
theorem grown_old {w W W' : World} {row : Option Nat} (h : Below w.heap.size w W) (k : W.grownBy W' row) : w.grownBy W' row :=
  ⟨k.os.trans h.os, k.tape.trans h.tape, k.output.trans h.output, Nat.le_trans h.size k.size, fun b hb hne => by rw [k.block b (Nat.lt_of_lt_of_le hb h.size) hne, h.block b hb]⟩
theorem near_old {w W : World} {v v' : Value} (h : Below w.heap.size w W) (k : Near W v v') : Near w v v' := k.imp id fun ⟨g, e, hg⟩ => ⟨g, e, Nat.le_trans h.size hg⟩
set_option maxRecDepth 100000 in
set_option maxHeartbeats 3200000 in
theorem put_w (base : Nat) (v : Value) (l : List UInt8) (s : Sp) (w : World) (ho : OB w base 5 v l) (h : s.ok) (hl : l.length ≤ 100000) (hb : base ≤ w.heap.size) (hm : s.mayB = true) :
    Calls Try.prog 29 #[v, .agg s.cells] w fun e w' => ∃ p k c, e = .returned (.slice p k c) ∧ k = (l ++ s.form).length ∧ OB w' base 5 (.slice p k c) (l ++ s.form) ∧ w.grownBy w' v.ownBlock ∧ Near w v (.slice p k c) := by
  have HS := Lib.hid (SpAt.new w s)
  have HM := Lib.hid (may_w s (w.alloc (.cells s.cells 27)) h)
  rw [hm] at HM
  have hnum := h.number
  have hrou := h.route
  have hlas := h.last
  have Hok := Lib.hid h
  have Ho := Lib.hid ho
  obtain ⟨pv, cv, rfl⟩ := ho.form
  have hvl : ∀ g, (Value.slice pv l.length cv).ownBlock = some g → g < w.heap.size := fun g hg => (Ho.out.lt g hg).2
  have Hvl := Lib.hid hvl
  clear ho h hvl
  go_enter Try.func29, Try.ntmps29
  go_wp2_with (first
    | (refine wpList_load_row rfl 27 (.tmp 3) rfl _ rfl _ _ _ _ HS.out Try.underlying27 rfl (show _ = some 25 by kernel_rfl) ?_)
    | (
      go_at_call 54
      refine (HM.out).mono ?_
      rintro r w1 ⟨rfl, hB⟩
      have HB1 := Lib.hid hB
      have HS1 := Lib.hid (HS.out.below hB)
      have d0 := (HS1.out.at 0).trans (show s.cells[0]? = some (.int .u32 s.number) from rfl)
      have d1 := (HS1.out.at 1).trans (show s.cells[1]? = some (.int .u8 s.route) from rfl)
      have d2 := (HS1.out.at 2).trans (show s.cells[2]? = some (.int .i64 s.tick) from rfl)
      have d3 := (HS1.out.at 3).trans (show s.cells[3]? = some (.int .i64 s.lot) from rfl)
      have d4 := (HS1.out.at 4).trans (show s.cells[4]? = some (.int .i64 s.band) from rfl)
      have d5 := (HS1.out.at 5).trans (show s.cells[5]? = some (.int .i64 s.limit) from rfl)
      clear hB))
  have HW := Lib.hid (show Below w.heap.size w (w1.alloc (.cells s.hdRow 2)) from ((((Below.refl w.heap.size w).alloc (Nat.le_refl _) (.cells s.cells 27)).trans (HB1.out.mono (by simp))).alloc (by have := HB1.out.size; simp at this; omega) _))
  have HSW := Lib.hid (HS1.out.below ((Below.refl w1.heap.size w1).alloc (Nat.le_refl _) (.cells s.hdRow 2)))
  have HRW := Lib.hid (show (w1.alloc (.cells s.hdRow 2)).heap[w1.heap.size]? = some (.cells s.hdRow 2) from heap_alloc_new w1 _)
  have hsz1 : w.heap.size < w1.heap.size := by have := HB1.out.size; simp at this; omega
  have hszW : (w1.alloc (.cells s.hdRow 2)).heap.size = w1.heap.size + 1 := heap_alloc_size _ _
  have HszW := Lib.hid hszW
  have HoW := Lib.hid (Ho.out.keeps (show Keeps w (w1.alloc (.cells s.hdRow 2)) from HW.out.block))
  obtain ⟨W2, hW2⟩ : ∃ W2, w1.alloc (.cells s.hdRow 2) = W2 := ⟨_, rfl⟩
  have hW2' : w1.alloc (.cells #[.int .i64 s.number, .int .i64 s.route, .int .i64 s.tick, .int .i64 s.lot, .int .i64 s.band, .int .i64 s.limit] 2) = W2 := hW2
  rw [hW2'] 
  rw [hW2] at HW HSW HRW HszW HoW
  clear hW2 hW2' hszW d0 d1 d2 d3 d4 d5 HS1 HB1 HM HS
  generalize w1.heap.size = B2 at *
  have Hl6 := Lib.hid (s.formA_le)
  have Hl16 := Lib.hid (s.formB_le Hok.out)
  go_loopw [0, 29] (fun b i wr => ∃ (k : Nat) (p : Option Addr) (m c : Nat), k ≤ 6 ∧ i = .int .i64 (k : Int) ∧ b = .slice p m c ∧ m = (l ++ s.formA k).length ∧ OB wr base 5 (.slice p m c) (l ++ s.formA k) ∧ W2.grownBy wr (Value.slice pv l.length cv).ownBlock ∧ Near W2 (.slice pv l.length cv) (.slice p m c)) (fun _ i _ => 6 - (intOf i).toNat)
  case atStart => exact ⟨0, pv, _, cv, by decide, rfl, rfl, by simp [Sp.formA], by have := HoW.out; simpa [Sp.formA] using this, World.grownBy.refl _ _, Near.refl _ _⟩
  case round =>
    obtain ⟨k, p, m, c, hk, rfl, rfl, hmm, hob, hg, hn⟩ := hrel
    have HV := Lib.hid hob
    have HG := Lib.hid hg
    have HN := Lib.hid hn
    have Hmm := Lib.hid hmm
    have hbw : base ≤ wr.heap.size := by have := hg.size; have := HW.out.size; omega
    clear hob hg hn hmm
    by_cases hlt : k < 6
    · have hck : wr.cell? ⟨B2, k, none⟩ = some (.int .i64 (s.hd k)) := by
        rw [World.cell?_of_block (a := ⟨B2, k, none⟩) (HG.out.block B2 (by rw [HszW.out]; omega) (fun e => by have := Hvl.out B2 e.symm; omega)), cell_of_row _ _ _ _ _ _ HRW.out]
        exact s.hd_at k hlt
      have hw := Form.u64_wrap (s.hd k)
      have Hsu := Lib.hid (s.formA_succ k)
      have hlen := Hl6.out k
      have Hlt := Lib.hid (Form.u64_lt (s.hd k))
      generalize Form.u64 (s.hd k) = u at *
      generalize s.hd k = x at *
      go_wp2_with (
        go_at_call 25
        with_reducible refine (nat2_w base _ (l ++ s.formA k) u _ HV.out Hlt.out (by rw [List.length_append]; omega) hbw).mono ?_
        rintro r w3 ⟨p1, k1, c1, rfl, hk1, ho1, hg1, hn1⟩
        have Hk1 := Lib.hid hk1
        have Ho1 := Lib.hid ho1
        have Hg1 := Lib.hid (grown_near HG.out hg1 HN.out)
        have Hn1 := Lib.hid (HN.out.trans hn1 HG.out.size)
        clear hk1 ho1 hg1 hn1)
      go_roundw
      case rel => exact ⟨k + 1, p1, k1, c1, by omega, by go_num, rfl, by rw [Hsu.out, ← List.append_assoc]; exact Hk1.out, by rw [Hsu.out, ← List.append_assoc]; exact Ho1.out, Hg1.out, Hn1.out⟩
      case measure => simp [intOf]; omega
    · have hk6 : k = 6 := by omega
      subst hk6
      have HS3 := Lib.hid (show SpAt wr w.heap.size s by
        unfold SpAt
        rw [HG.out.block w.heap.size (by rw [HszW.out]; omega) (fun e => by have := Hvl.out _ e.symm; omega)]; exact HSW.out)
      have HR3 := Lib.hid HS3.out.range
      go_wp2_with (refine wpList_load_mid rfl 25 (.tmp 38) rfl _ _ rfl s.row.toList _ HR3.out Try.underlying25 rfl (show _ = some 16 by kernel_rfl) ?_; rw [Array.toArray_toList])
      go_loopw [0, 40] (fun b i wr => ∃ (k : Nat) (p : Option Addr) (m c : Nat), k ≤ 16 ∧ i = .int .i64 (k : Int) ∧ b = .slice p m c ∧ m = (l ++ s.formA 6 ++ s.formB k).length ∧ OB wr base 5 (.slice p m c) (l ++ s.formA 6 ++ s.formB k) ∧ W2.grownBy wr (Value.slice pv l.length cv).ownBlock ∧ Near W2 (.slice pv l.length cv) (.slice p m c)) (fun _ i _ => 16 - (intOf i).toNat)
      case atStart => exact ⟨0, p, m, c, by decide, rfl, rfl, by rw [Hmm.out]; simp [Sp.formB], by have := HV.out; simpa [Sp.formB] using this, HG.out, HN.out⟩
      case round =>
        obtain ⟨k, p, m, c, hk, rfl, rfl, hmm, hob, hg, hn⟩ := hrel
        have HV := Lib.hid hob
        have HG := Lib.hid hg
        have HN := Lib.hid hn
        have Hmm := Lib.hid hmm
        have hbw : base ≤ wr.heap.size := by have := hg.size; have := HW.out.size; omega
        clear hob hg hn hmm HR3 HS3
        by_cases hlt : k < 16
        · have hidx := run_index_row s k hlt
          obtain ⟨hx1, hx2⟩ := Hok.out.sh k
          have Hsu := Lib.hid (s.formB_succ k)
          have hlen := Hl16.out k
          have hlen6 := Hl6.out 6
          generalize s.sh k = x at *
          go_wp2_with (
            go_at_call 28
            with_reducible refine (int2_w base _ (l ++ s.formA 6 ++ s.formB k) x _ HV.out hx1 hx2 (by rw [List.length_append, List.length_append]; omega) hbw).mono ?_
            rintro r w3 ⟨p1, k1, c1, rfl, hk1, ho1, hg1, hn1⟩
            have Hk1 := Lib.hid hk1
            have Ho1 := Lib.hid ho1
            have Hg1 := Lib.hid (grown_near HG.out hg1 HN.out)
            have Hn1 := Lib.hid (HN.out.trans hn1 HG.out.size)
            clear hk1 ho1 hg1 hn1)
          go_roundw
          case rel => exact ⟨k + 1, p1, k1, c1, by omega, by go_num, rfl, by rw [Hsu.out, ← List.append_assoc]; exact Hk1.out, by rw [Hsu.out, ← List.append_assoc]; exact Ho1.out, Hg1.out, Hn1.out⟩
          case measure => simp [intOf]; omega
        · have hk16 : k = 16 := by omega
          subst hk16
          have HS3 := Lib.hid (show SpAt wr w.heap.size s by
            unfold SpAt
            rw [HG.out.block w.heap.size (by rw [HszW.out]; omega) (fun e => by have := Hvl.out _ e.symm; omega)]; exact HSW.out)
          go_wp2
          have d22 := (HS3.out.at 22).trans (show s.cells[22]? = some (.int .i64 s.credit) from rfl)
          have d23 := (HS3.out.at 23).trans (show s.cells[23]? = some (.int .u32 s.last) from rfl)
          have d24 := (HS3.out.at 24).trans (show s.cells[24]? = some (.int .i64 s.first) from rfl)
          have hw1 := Form.u64_wrap s.credit
          have hw3 := Form.u64_wrap s.first
          have hc2 : (Form.u64 s.last : Int) = s.last := by unfold Form.u64; omega
          rw [← hc2] at d23
          have Hc23 := Lib.hid (show s.cells[23]? = some (.int .u32 ((Form.u64 s.last : Nat) : Int)) by rw [hc2]; rfl)
          have hc2b : (Form.u64 s.last : Int) ≤ 4294967295 := by omega
          have hlen6 := Hl6.out 6
          have hlen16 := Hl16.out 16
          have u1 := Form.u64_lt s.credit
          have u2 := Form.u64_lt s.last
          have u3 := Form.u64_lt s.first
          have U1 := Lib.hid u1
          have U2 := Lib.hid u2
          have U3 := Lib.hid u3
          have n1 := Form.nat_len10 u1
          have n2 := Form.nat_len10 u2
          clear u1 u2 u3
          have hfm : l ++ s.formA 6 ++ s.formB 16 ++ Form.nat (Form.u64 s.credit) ++ Form.nat (Form.u64 s.last) ++ Form.nat (Form.u64 s.first) = l ++ s.form := by unfold Sp.form; simp only [List.append_assoc]
          have Hfm := Lib.hid hfm
          clear hfm
          clear hc2
          generalize Form.u64 s.credit = c1 at *
          generalize Form.u64 s.last = c2 at *
          generalize Form.u64 s.first = c3 at *
          have HLl := Lib.hid (show (l ++ s.formA 6 ++ s.formB 16).length ≤ 200000 by rw [List.length_append, List.length_append]; omega)
          generalize hF : l ++ s.formA 6 ++ s.formB 16 = F at *
          clear hF
          have HSP := Lib.hid (fun (W : World) (hg : W2.grownBy W (Value.slice pv l.length cv).ownBlock) => (show SpAt W w.heap.size s by
            unfold SpAt
            rw [hg.block w.heap.size (by rw [HszW.out]; omega) (fun e => by have := Hvl.out _ e.symm; omega)]; exact HSW.out))
          have hWb : base ≤ W2.heap.size := by have := HW.out.size; omega
          have HGd := Lib.hid (show W2.grownBy wr.drew (Value.slice pv l.length cv).ownBlock from ⟨HG.out.os, HG.out.tape, HG.out.output, HG.out.size, HG.out.block⟩)
          have HVd := Lib.hid (HV.out.keeps (Keeps.refl wr).drew)
          have hbwd : base ≤ wr.drew.heap.size := hbw
          have hb3 : ∀ W, W2.grownBy W (Value.slice pv l.length cv).ownBlock → base ≤ W.heap.size := fun W h => Nat.le_trans hWb h.size
          have Hb3 := Lib.hid hb3
          clear hb3
          have hwc2 : IntKind.u64.wrap (c2 : Int) = (c2 : Int) := IntWalk.u64_in _ (by omega)
          have hL1 : F.length ≤ 1000000 := by have := HLl.out; omega
          have hL2 : (F ++ Form.nat c1).length ≤ 1000000 := by have := HLl.out; simp only [List.length_append]; omega
          have hL3 : (F ++ Form.nat c1 ++ Form.nat c2).length ≤ 1000000 := by have := HLl.out; simp only [List.length_append]; omega
          go_region_held3 (fun w' => w'.cell? ⟨w.heap.size, 22, none⟩ = some (.int .i64 s.credit) ∧ w'.cell? ⟨w.heap.size, 23, none⟩ = some (.int .u32 (c2 : Int)) ∧ w'.cell? ⟨w.heap.size, 24, none⟩ = some (.int .i64 s.first)) (go_keep) ((
            go_at_call 25
            first
              | (with_reducible refine (nat2_w base _ F c1 _ HVd.out U1.out hL1 hbwd).mono ?_
                 rintro r w3 ⟨p1, k1, x1, rfl, hk1, ho1, hg1, hn1⟩
                 have Kk1 := Lib.hid hk1
                 have O1 := Lib.hid ho1
                 have G1 := Lib.hid (grown_near HGd.out hg1 HN.out)
                 have N1 := Lib.hid (Near.trans HN.out hn1 (World.grownBy.size HGd.out))
                 have e22 := ((HSP.out _ G1.out).at 22).trans (show s.cells[22]? = some (.int .i64 s.credit) from rfl)
                 have e23 := ((HSP.out _ G1.out).at 23).trans Hc23.out
                 have e24 := ((HSP.out _ G1.out).at 24).trans (show s.cells[24]? = some (.int .i64 s.first) from rfl)
                 clear hk1 ho1 hg1 hn1)
              | (with_reducible refine (nat2_w base _ (F ++ Form.nat c1) c2 _ O1.out U2.out hL2 (Hb3.out _ G1.out)).mono ?_
                 rintro r w4 ⟨p2, k2, x2, rfl, hk1, ho1, hg1, hn1⟩
                 have Kk2 := Lib.hid hk1
                 have O2 := Lib.hid ho1
                 have G2 := Lib.hid (grown_near G1.out hg1 N1.out)
                 have N2 := Lib.hid (Near.trans N1.out hn1 (World.grownBy.size G1.out))
                 have e22 := ((HSP.out _ G2.out).at 22).trans (show s.cells[22]? = some (.int .i64 s.credit) from rfl)
                 have e23 := ((HSP.out _ G2.out).at 23).trans Hc23.out
                 have e24 := ((HSP.out _ G2.out).at 24).trans (show s.cells[24]? = some (.int .i64 s.first) from rfl)
                 clear hk1 ho1 hg1 hn1)
              | (with_reducible refine (nat2_w base _ (F ++ Form.nat c1 ++ Form.nat c2) c3 _ O2.out U3.out hL3 (Hb3.out _ G2.out)).mono ?_
                 rintro r w5 ⟨p3, k3, x3, rfl, hk1, ho1, hg1, hn1⟩
                 have Kk3 := Lib.hid hk1
                 have O3 := Lib.hid ho1
                 have G3 := Lib.hid (grown_near G2.out hg1 N2.out)
                 have N3 := Lib.hid (Near.trans N2.out hn1 (World.grownBy.size G2.out))
                 have e22 := ((HSP.out _ G3.out).at 22).trans (show s.cells[22]? = some (.int .i64 s.credit) from rfl)
                 have e23 := ((HSP.out _ G3.out).at 23).trans Hc23.out
                 have e24 := ((HSP.out _ G3.out).at 24).trans (show s.cells[24]? = some (.int .i64 s.first) from rfl)
                 clear hk1 ho1 hg1 hn1)))
          go_wp2
          go_ret
          rw [← Hfm.out]
          exact ⟨p3, k3, x3, rfl, Kk3.out, O3.out, grown_old HW.out G3.out, near_old HW.out N3.out⟩

end Go.Proofs.Ytoflehlkacofjaa
/- A contract's data, read: plain, and Take. -/
namespace Go.Proofs.Ytoflehlkacofjaa
open Go.ChangeShapes Go.WideShapes Go.ChangeAt Go.RowKit
set_option linter.unusedVariables false
namespace Form
theorem small_most {b : List UInt8} {a : Nat} {e : Int} {most n a' : Nat} {e' : Int} (h : small b a e most = (n, a', e')) : n ≤ most := by
  unfold small at h
  split at h
  · cases h; exact Nat.zero_le _
  · obtain ⟨r, hr⟩ : ∃ r, rd 0 0 (b.drop a) = r := ⟨_, rfl⟩
    simp only [hr] at h
    split at h
    · split at h
      · cases h; exact Nat.zero_le _
      · cases h; omega
    · cases h; exact Nat.zero_le _
def mst (i : Nat) : Nat := if i = 0 then 4294967295 else if i = 1 then 255 else if i < 6 then 9223372036854775807 else if i < 22 then 18446744073709551615 else if i = 23 then 4294967295 else 9223372036854775807
theorem mst_lt (i : Nat) : mst i < 2 ^ 64 := by
  unfold mst
  repeat' split
  all_goals decide
/-- Where a reader stands behind i numbers, and with what fault. -/
def rst (b : List UInt8) (a : Nat) (e : Int) : Nat → Nat × Int
  | 0 => (a, e)
  | i + 1 => (small b (rst b a e i).1 (rst b a e i).2 (mst i)).2
def rv (b : List UInt8) (a : Nat) (e : Int) (i : Nat) : Nat := (small b (rst b a e i).1 (rst b a e i).2 (mst i)).1
theorem rst_step (b : List UInt8) (a : Nat) (e : Int) (i : Nat) : small b (rst b a e i).1 (rst b a e i).2 (mst i) = (rv b a e i, (rst b a e (i + 1)).1, (rst b a e (i + 1)).2) := rfl
theorem rst_le (b : List UInt8) (a : Nat) (e : Int) (h : a ≤ b.length) : ∀ i, (rst b a e i).1 ≤ b.length := by
  intro i
  induction i with
  | zero => exact h
  | succ i ih => exact (small_le (rst_step b a e i) ih).2.1
theorem rv_le (b : List UInt8) (a : Nat) (e : Int) (i : Nat) : rv b a e i ≤ mst i := small_most (rst_step b a e i)
theorem rv_lt (b : List UInt8) (a : Nat) (e : Int) (i : Nat) : rv b a e i < 2 ^ 64 := Nat.lt_of_le_of_lt (rv_le b a e i) (mst_lt i)
end Form
namespace Sp
/-- The data that are read. -/
def taken (b : List UInt8) (a : Nat) (e : Int) : Sp :=
  ⟨(Form.rv b a e 0 : Nat), (Form.rv b a e 1 : Nat), (Form.rv b a e 2 : Nat), (Form.rv b a e 3 : Nat), (Form.rv b a e 4 : Nat), (Form.rv b a e 5 : Nat), fun j => Form.unfold_ (Form.rv b a e (6 + j)), (Form.rv b a e 22 : Nat), (Form.rv b a e 23 : Nat), (Form.rv b a e 24 : Nat)⟩
theorem taken_ok (b : List UInt8) (a : Nat) (e : Int) : (taken b a e).ok := by
  have h : ∀ i, Form.rv b a e i ≤ Form.mst i := Form.rv_le b a e
  refine ⟨?_, ?_, ?_, ?_, ?_, ?_, fun j => Form.unfold_bd _ (Form.rv_lt b a e _), ?_, ?_, ?_⟩
  · have := h 0; simp only [Form.mst] at this; show (0 : Int) ≤ (Form.rv b a e 0 : Nat) ∧ ((Form.rv b a e 0 : Nat) : Int) ≤ _; simp at this; omega
  · have := h 1; simp only [Form.mst] at this; show (0 : Int) ≤ (Form.rv b a e 1 : Nat) ∧ ((Form.rv b a e 1 : Nat) : Int) ≤ _; simp at this; omega
  · have := h 2; simp only [Form.mst] at this; show i64 (Form.rv b a e 2 : Nat); unfold i64; simp at this; omega
  · have := h 3; simp only [Form.mst] at this; show i64 (Form.rv b a e 3 : Nat); unfold i64; simp at this; omega
  · have := h 4; simp only [Form.mst] at this; show i64 (Form.rv b a e 4 : Nat); unfold i64; simp at this; omega
  · have := h 5; simp only [Form.mst] at this; show i64 (Form.rv b a e 5 : Nat); unfold i64; simp at this; omega
  · have := h 22; simp only [Form.mst] at this; show i64 (Form.rv b a e 22 : Nat); unfold i64; simp at this; omega
  · have := h 23; simp only [Form.mst] at this; show (0 : Int) ≤ (Form.rv b a e 23 : Nat) ∧ ((Form.rv b a e 23 : Nat) : Int) ≤ _; simp at this; omega
  · have := h 24; simp only [Form.mst] at this; show i64 (Form.rv b a e 24 : Nat); unfold i64; simp at this; omega
/-- Its first i numbers, the others 0. -/
def trunc (s : Sp) (i : Nat) : Sp :=
  ⟨if 0 < i then s.number else 0, if 1 < i then s.route else 0, if 2 < i then s.tick else 0, if 3 < i then s.lot else 0, if 4 < i then s.band else 0, if 5 < i then s.limit else 0,
    fun j => if 6 + j < i then s.sh j else 0, if 22 < i then s.credit else 0, if 23 < i then s.last else 0, if 24 < i then s.first else 0⟩
def zero : Sp := ⟨0, 0, 0, 0, 0, 0, fun _ => 0, 0, 0, 0⟩
theorem trunc_set (s : Sp) (i : Nat) (hi : i < 25) : (s.trunc i).cells.setIfInBounds i (s.cells.getD i undef) = (s.trunc (i + 1)).cells := by
  have h : i = 0 ∨ i = 1 ∨ i = 2 ∨ i = 3 ∨ i = 4 ∨ i = 5 ∨ i = 6 ∨ i = 7 ∨ i = 8 ∨ i = 9 ∨ i = 10 ∨ i = 11 ∨ i = 12 ∨ i = 13 ∨ i = 14 ∨ i = 15 ∨ i = 16 ∨ i = 17 ∨ i = 18 ∨ i = 19 ∨ i = 20 ∨ i = 21 ∨ i = 22 ∨ i = 23 ∨ i = 24 := by omega
  rcases h with rfl | rfl | rfl | rfl | rfl | rfl | rfl | rfl | rfl | rfl | rfl | rfl | rfl | rfl | rfl | rfl | rfl | rfl | rfl | rfl | rfl | rfl | rfl | rfl | rfl <;> rfl
end Sp
theorem SpAt.set {w : World} {B : Nat} {s : Sp} {i : Nat} (h : SpAt w B (s.trunc i)) (hi : i < 25) (v : Value) (hv : s.cells.getD i undef = v) : SpAt (w.setCell ⟨B, i, none⟩ v) B (s.trunc (i + 1)) := by
  subst hv
  unfold SpAt at *
  simp only [World.setCell, Array.getElem?_modify, h, if_true, Option.map_some]
  rw [← s.trunc_set i hi]
  rfl
theorem SpAt.kept {w w' : World} {B : Nat} {s : Sp} (h : SpAt w B s) {row : Option Nat} (hg : w.grownBy w' row) (hne : some B ≠ row) : SpAt w' B s := by
  unfold SpAt at *
  rw [hg.block B (Array.getElem?_eq_some_iff.1 h).1 hne]; exact h

/-- Reading goes on: k numbers are read, j are laid down. -/
structure TK (w wr : World) (g : Nat) (v : Value) (b : List UInt8) (a : Nat) (e : Int) (R B k j : Nat) : Prop where
  rd : Rdr wr g v (Form.rst b a e k).1 (Form.rst b a e k).2
  bs : RdB wr v b
  sp : SpAt wr B ((Sp.taken b a e).trunc j)
  rz : SpAt wr R Sp.zero
  gr : w.grownBy wr (some g)
theorem TK.read {w wr w1 : World} {g : Nat} {v : Value} {b : List UInt8} {a : Nat} {e : Int} {R B k j : Nat} (h : TK w wr g v b a e R B k j) (hm : Moved wr w1 g v (Form.rst b a e (k + 1)).1 (Form.rst b a e (k + 1)).2) (ho : Off v g) (hR : R ≠ g) (hB : B ≠ g) : TK w w1 g v b a e R B (k + 1) j :=
  ⟨hm.1, h.bs.grown hm.2 ho, h.sp.kept hm.2 (by simpa using hB), h.rz.kept hm.2 (by simpa using hR), h.gr.trans hm.2⟩
theorem TK.lay {w wr : World} {g : Nat} {v : Value} {b : List UInt8} {a : Nat} {e : Int} {R B k j : Nat} (h : TK w wr g v b a e R B k j) (hj : j < 25) (x : Value) (hx : (Sp.taken b a e).cells.getD j undef = x) (ho : Off v B) (hR : R ≠ B) (hB : B ≠ g) (hBw : w.heap.size ≤ B) : TK w (wr.setCell ⟨B, j, none⟩ x) g v b a e R B k (j + 1) :=
  have hg := Lib.grownBy_setCell wr B j x
  ⟨h.rd.kept hg (by simpa using fun e => hB e.symm), h.bs.grown hg ho, h.sp.set hj x hx, h.rz.kept hg (by simpa using hR),
    ⟨hg.os.trans h.gr.os, hg.tape.trans h.gr.tape, hg.output.trans h.gr.output, Nat.le_trans h.gr.size hg.size, fun k hk hne => by rw [hg.block k (Nat.lt_of_lt_of_le hk h.gr.size) (by simp; omega), h.gr.block k hk hne]⟩⟩
end Go.Proofs.Ytoflehlkacofjaa
/- Walk of Take. -/
namespace Go.Proofs.Ytoflehlkacofjaa
open Go.ChangeShapes Go.WideShapes Go.ChangeAt Go.RowKit
set_option linter.unusedVariables false
theorem SpAt.cell_some {w : World} {B : Nat} {s : Sp} (h : SpAt w B s) (k : Nat) (hk : k < 25) : ∃ v, w.cell? ⟨B, k, none⟩ = some v := by
  rw [h.at]
  exact ⟨_, Array.getElem?_eq_getElem (by rw [s.size]; exact hk)⟩
theorem SpAt.frozen {w : World} {B : Nat} {s : Sp} (h : SpAt w B s) (k : Nat) : w.frozen? ⟨B, k, none⟩ = false := by
  unfold SpAt at h
  simp [World.frozen?, h]
theorem TK.alloc {w wr : World} {g : Nat} {v : Value} {b : List UInt8} {a : Nat} {e : Int} {R B k j : Nat} (h : TK w wr g v b a e R B k j) (o : Obj) : TK w (wr.alloc o) g v b a e R B k j :=
  have hk : Keeps wr (wr.alloc o) := (Keeps.refl wr).alloc o
  have hg : wr.grownBy (wr.alloc o) (some g) := World.grownBy_alloc wr o _
  have hn : wr.grownBy (wr.alloc o) none := World.grownBy_alloc wr o _
  ⟨h.rd.keeps hk, h.bs.keeps hk, h.sp.kept hn (by simp), h.rz.kept hn (by simp), h.gr.trans hg⟩
theorem cells_one (s : Sp) : s.cells.all (·.oneCell') = true := by unfold Sp.cells; simp [Value.oneCell']
theorem hz66 : ((Try.prog.info? 27).bind (·.zero)).map Value.cells = some Sp.zero.cells := by kernel_rfl

theorem small_z (g : Nat) (v : Value) (b : List UInt8) (a : Nat) (e : Int) (z : Int) (most : Nat) (hz : z = (most : Int)) (w : World) (h : Rdr w g v a e) (hb : RdB w v b) (ha : a ≤ b.length) (hl : b.length ≤ 1000000) (hm : most < 2 ^ 64) :
    Calls Try.prog 42 #[.pointer (some ⟨g, 0, none⟩), .int .u64 z] w fun r w' => ∃ n a' : Nat, ∃ e' : Int, Form.small b a e most = (n, a', e') ∧ r = .returned (.int .u64 (n : Int)) ∧ Moved w w' g v a' e' := by
  subst hz; exact small_w g v b a e most w h hb ha hl hm
theorem setRow_moved {w W : World} {g R : Nat} {v : Value} {a : Nat} {e : Int} {cs : Array Value} (h : Rdr W g v a e) (hg : w.grownBy W (some g)) (hR : w.heap.size ≤ R) (hne : R ≠ g) : Moved w (W.setRow R cs) g v a e := by
  refine ⟨?_, hg.os, hg.tape, hg.output, by simpa [World.setRow] using hg.size, fun k hk hn => ?_⟩
  · unfold Rdr at *; rw [setRow_other _ _ _ _ (Ne.symm hne)]; exact h
  · rw [setRow_other _ _ _ _ (by omega)]; exact hg.block k hk hn
/-- What Take leaves. -/
def Took (w : World) (g : Nat) (v : Value) (b : List UInt8) (a : Nat) (e : Int) (r : Ending) (w' : World) : Prop :=
  ∃ e2, r = .returned (.agg (if (Sp.taken b a e).mayB then (Sp.taken b a e).cells else Sp.zero.cells)) ∧
    e2 = (if (Sp.taken b a e).mayB then (Form.rst b a e 25).2 else if (Form.rst b a e 25).2 = 0 then 5 else (Form.rst b a e 25).2) ∧ Moved w w' g v (Form.rst b a e 25).1 e2
theorem took_yes {w w' : World} {g : Nat} {v : Value} {b : List UInt8} {a : Nat} {e : Int} {r : Ending} (h : (Sp.taken b a e).mayB = true) (hr : r = .returned (.agg (Sp.taken b a e).cells)) (hm : Moved w w' g v (Form.rst b a e 25).1 (Form.rst b a e 25).2) : Took w g v b a e r w' := by
  refine ⟨_, ?_, rfl, ?_⟩
  · rw [if_pos h]; exact hr
  · rw [if_pos h]; exact hm
theorem took_no {w w' : World} {g : Nat} {v : Value} {b : List UInt8} {a : Nat} {e : Int} {r : Ending} (h : (Sp.taken b a e).mayB = false) (hr : r = .returned (.agg Sp.zero.cells)) (hm : Moved w w' g v (Form.rst b a e 25).1 (if (Form.rst b a e 25).2 = 0 then 5 else (Form.rst b a e 25).2)) : Took w g v b a e r w' := by
  have h' : ¬ (Sp.taken b a e).mayB = true := by rw [h]; simp
  refine ⟨_, ?_, rfl, ?_⟩
  · rw [if_neg h']; exact hr
  · rw [if_neg h']; exact hm

set_option maxRecDepth 100000 in
set_option maxHeartbeats 3200000 in
theorem take_w (g : Nat) (v : Value) (b : List UInt8) (a : Nat) (e : Int) (w : World) (h : Rdr w g v a e) (hb : RdB w v b) (ha : a ≤ b.length) (hl : b.length ≤ 1000000) (ho : Off v g) :
    Calls Try.prog 61 #[.pointer (some ⟨g, 0, none⟩)] w (Took w g v b a e) := by
  have hgl := h.lt
  have hoff : ∀ x, w.heap.size ≤ x → Off v x := fun x hx => hb.off hx
  have Hoff := Lib.hid hoff
  have Hle := Lib.hid (Form.rst_le b a e ha)
  have HR := Lib.hid (SpAt.new w Sp.zero)
  have H0 := Lib.hid (show Rdr (w.alloc (.cells Sp.zero.cells 27)) g v (Form.rst b a e 0).1 (Form.rst b a e 0).2 from h.keeps ((Keeps.refl w).alloc _))
  have Hb0 := Lib.hid (hb.keeps ((Keeps.refl w).alloc (.cells Sp.zero.cells 27)))
  have m0 : Form.mst 0 = 4294967295 := rfl
  have m1 : Form.mst 1 = 255 := rfl
  have S0 := Lib.hid (fun W h1 h2 => small_z g v b (Form.rst b a e 0).1 (Form.rst b a e 0).2 4294967295 4294967295 rfl W h1 h2 (Hle.out 0) hl (by decide))
  have S1 := Lib.hid (fun W h1 h2 => small_z g v b (Form.rst b a e 1).1 (Form.rst b a e 1).2 255 255 rfl W h1 h2 (Hle.out 1) hl (by decide))
  have R0 := Lib.hid (Form.rst_step b a e 0)
  have R1 := Lib.hid (Form.rst_step b a e 1)
  have V0 := Form.rv_le b a e 0
  have V1 := Form.rv_le b a e 1
  rw [m0] at R0 V0
  rw [m1] at R1 V1
  clear h hb m0 m1 hoff
  go_enter Try.func61, Try.ntmps61
  go_wp2_with (first
    | (refine wpList_alloc_zero rfl 27 rfl _ hz66 ?_)
    | (go_at_call 42; first
        | (with_reducible refine (S0.out _ H0.out Hb0.out).mono ?_
           rintro r w1 ⟨n, a', e', h1, rfl, hm⟩
           rw [R0.out] at h1
           cases h1
           have Hr1 := Lib.hid hm.1
           have Hg1 := Lib.hid hm.2
           have Hb1 := Lib.hid (Hb0.out.grown hm.2 ho)
           clear hm)
        | (with_reducible refine (S1.out _ Hr1.out Hb1.out).mono ?_
           rintro r w2 ⟨n, a', e', h1, rfl, hm⟩
           rw [R1.out] at h1
           cases h1
           have Hr2 := Lib.hid hm.1
           have Hg2 := Lib.hid hm.2
           have Hb2 := Lib.hid (Hb1.out.grown hm.2 ho)
           have HN2 := Lib.hid (SpAt.new w2 Sp.zero)
           clear hm))
    | (refine wpList_store_rowTo rfl 27 (.tmp 3) (.tmp 13) rfl rfl _ ((Sp.taken b a e).trunc 2).cells rfl rfl 27 Sp.zero.cells HN2.out (show _ = some 25 by kernel_rfl) rfl (cells_one _) ?_))
  have hR2 : w.heap.size < w2.heap.size := by have h1 := Hg1.out.size; have h2 := Hg2.out.size; simp at h1; omega
  have HT := Lib.hid (show TK w ((w2.alloc (.cells Sp.zero.cells 27)).setRow w2.heap.size ((Sp.taken b a e).trunc 2).cells) g v b a e w.heap.size w2.heap.size 2 2 from by
    have hk : Keeps w2 ((w2.alloc (.cells Sp.zero.cells 27)).setRow w2.heap.size ((Sp.taken b a e).trunc 2).cells) := fun k hk => by
      rw [setRow_other _ _ _ _ (by omega), Below.heap_alloc w2 _ k hk]
    have hrz : SpAt w2 w.heap.size Sp.zero := (HR.out.kept Hg1.out (by simp; omega)).kept Hg2.out (by simp; omega)
    refine ⟨Hr2.out.keeps hk, Hb2.out.keeps hk, setRow_heap _ _ _ _ _ _ HN2.out, ?_, ?_⟩
    · unfold SpAt at *; rw [hk w.heap.size hR2]; exact hrz
    · exact (((World.grownBy_alloc w (.cells Sp.zero.cells 27) (some g)).trans Hg1.out).trans Hg2.out).trans ⟨rfl, rfl, rfl, by simp [World.setRow], fun k hk' _ => hk k hk'⟩)
  have hsz3 : ((w2.alloc (.cells Sp.zero.cells 27)).setRow w2.heap.size ((Sp.taken b a e).trunc 2).cells).heap.size = w2.heap.size + 1 := by simp [World.setRow]
  have Hsz3 := Lib.hid hsz3
  clear hsz3 V0 V1
  have hP : ∃ W4, ((w2.alloc (.cells Sp.zero.cells 27)).setRow w2.heap.size ((Sp.taken b a e).trunc 2).cells).alloc (.cells #[.pointer (some ⟨w2.heap.size, 2, none⟩), .pointer (some ⟨w2.heap.size, 3, none⟩), .pointer (some ⟨w2.heap.size, 4, none⟩), .pointer (some ⟨w2.heap.size, 5, none⟩)] 105) = W4 := ⟨_, rfl⟩
  obtain ⟨W4, hW4⟩ := hP
  have HT4 := Lib.hid (HT.out.alloc (.cells #[.pointer (some ⟨w2.heap.size, 2, none⟩), .pointer (some ⟨w2.heap.size, 3, none⟩), .pointer (some ⟨w2.heap.size, 4, none⟩), .pointer (some ⟨w2.heap.size, 5, none⟩)] 105))
  have hP4 := heap_alloc_new ((w2.alloc (.cells Sp.zero.cells 27)).setRow w2.heap.size ((Sp.taken b a e).trunc 2).cells) (.cells #[.pointer (some ⟨w2.heap.size, 2, none⟩), .pointer (some ⟨w2.heap.size, 3, none⟩), .pointer (some ⟨w2.heap.size, 4, none⟩), .pointer (some ⟨w2.heap.size, 5, none⟩)] 105)
  rw [Hsz3.out] at hP4
  rw [hW4] at hP4 HT4 ⊢
  have HP4 := Lib.hid hP4
  clear hW4 hP4 HT HN2 Hr1 Hr2 Hg1 Hg2 Hb1 Hb2 Hsz3 HR H0 Hb0
  generalize w2.heap.size = B at *
  have hBg : B ≠ g := by omega
  have hRg : w.heap.size ≠ g := by omega
  have hRB : w.heap.size ≠ B := by omega
  have HoB := Lib.hid (Hoff.out B (by omega))
  go_loopw [20] (fun i wr => ∃ k : Nat, k ≤ 4 ∧ i = .int .i64 (k : Int) ∧ TK w wr g v b a e w.heap.size B (2 + k) (2 + k) ∧ wr.heap[B + 1]? = some (.cells #[.pointer (some ⟨B, 2, none⟩), .pointer (some ⟨B, 3, none⟩), .pointer (some ⟨B, 4, none⟩), .pointer (some ⟨B, 5, none⟩)] 105)) (fun i _ => 4 - (intOf i).toNat)
  case atStart => exact ⟨0, by decide, rfl, HT4.out, HP4.out⟩
  case round =>
    obtain ⟨k, hk, rfl, hT, hP⟩ := hrel
    have HT := Lib.hid hT
    have HP := Lib.hid hP
    clear hT hP HT4 HP4
    by_cases hlt : k < 4
    · have hck : wr.cell? ⟨B + 1, k, none⟩ = some (.pointer (some ⟨B, 2 + k, none⟩)) := by
        rw [cell_of_row _ _ _ _ _ _ HP.out]
        have h : k = 0 ∨ k = 1 ∨ k = 2 ∨ k = 3 := by omega
        rcases h with rfl | rfl | rfl | rfl <;> rfl
      have hmk : Form.mst (2 + k) = 9223372036854775807 := by
        have h : k = 0 ∨ k = 1 ∨ k = 2 ∨ k = 3 := by omega
        rcases h with rfl | rfl | rfl | rfl <;> rfl
      have hcv : (Sp.taken b a e).cells.getD (2 + k) undef = .int .i64 (Form.rv b a e (2 + k) : Nat) := by
        have h : k = 0 ∨ k = 1 ∨ k = 2 ∨ k = 3 := by omega
        rcases h with rfl | rfl | rfl | rfl <;> rfl
      have hvb := Form.rv_le b a e (2 + k)
      have hst := Form.rst_step b a e (2 + k)
      rw [hmk] at hvb hst
      have SK := Lib.hid (small_z g v b (Form.rst b a e (2 + k)).1 (Form.rst b a e (2 + k)).2 9223372036854775807 9223372036854775807 rfl wr HT.out.rd HT.out.bs (Hle.out _) hl (by decide))
      have Hst := Lib.hid hst
      have Hcv := Lib.hid hcv
      clear hmk hst hcv
      generalize hn : Form.rv b a e (2 + k) = n at *
      have hwn : IntKind.i64.wrap (n : Int) = (n : Int) := IntWalk.i64_in _ (by omega)
      clear hn
      go_wp2_with (
        go_at_call 42
        with_reducible refine (SK.out).mono ?_
        rintro r w5 ⟨n', a', e', h1, rfl, hm⟩
        rw [Hst.out] at h1
        cases h1
        have HT5 := Lib.hid (HT.out.read hm ho hRg hBg)
        have HP5 := Lib.hid ((hm.2.block (B + 1) (Array.getElem?_eq_some_iff.1 HP.out).1 (by simp; omega)).trans HP.out)
        have hcc := HT5.out.sp.cell_some (2 + k) (by omega)
        have hff := HT5.out.sp.frozen (2 + k)
        obtain ⟨old, hcc⟩ := hcc
        clear hm)
      go_roundw
      case rel => exact ⟨k + 1, by omega, by go_num, HT5.out.lay (by omega) _ Hcv.out HoB.out hRB hBg (by omega), by rw [(Lib.grownBy_setCell w5 B _ _).block (B + 1) (Array.getElem?_eq_some_iff.1 HP5.out).1 (by simp)]; exact HP5.out⟩
      case measure => simp [intOf]; omega
    · have hk4 : k = 4 := by omega
      subst hk4
      rw [show ((4 : Nat) : Int) = 4 from rfl]
      go_wp2
      go_loopw [30] (fun i wr => ∃ k : Nat, k ≤ 16 ∧ i = .int .i64 (k : Int) ∧ TK w wr g v b a e w.heap.size B (6 + k) (6 + k)) (fun i _ => 16 - (intOf i).toNat)
      case atStart => exact ⟨0, by decide, rfl, HT.out⟩
      case round =>
        obtain ⟨k, hk, rfl, hT⟩ := hrel
        have HT := Lib.hid hT
        clear hT HP
        by_cases hlt : k < 16
        · have hmk : Form.mst (6 + k) = 18446744073709551615 := by
            have h : k = 0 ∨ k = 1 ∨ k = 2 ∨ k = 3 ∨ k = 4 ∨ k = 5 ∨ k = 6 ∨ k = 7 ∨ k = 8 ∨ k = 9 ∨ k = 10 ∨ k = 11 ∨ k = 12 ∨ k = 13 ∨ k = 14 ∨ k = 15 := by omega
            rcases h with rfl | rfl | rfl | rfl | rfl | rfl | rfl | rfl | rfl | rfl | rfl | rfl | rfl | rfl | rfl | rfl <;> rfl
          have hcv : (Sp.taken b a e).cells.getD (6 + k) undef = .int .i64 (Form.unfold_ (Form.rv b a e (6 + k))) := by
            have h : k = 0 ∨ k = 1 ∨ k = 2 ∨ k = 3 ∨ k = 4 ∨ k = 5 ∨ k = 6 ∨ k = 7 ∨ k = 8 ∨ k = 9 ∨ k = 10 ∨ k = 11 ∨ k = 12 ∨ k = 13 ∨ k = 14 ∨ k = 15 := by omega
            rcases h with rfl | rfl | rfl | rfl | rfl | rfl | rfl | rfl | rfl | rfl | rfl | rfl | rfl | rfl | rfl | rfl <;> rfl
          have hst := Form.rst_step b a e (6 + k)
          rw [hmk] at hst
          have SK := Lib.hid (rint_w g v b (Form.rst b a e (6 + k)).1 (Form.rst b a e (6 + k)).2 wr HT.out.rd HT.out.bs (Hle.out _) hl)
          have Hst := Lib.hid hst
          have Hcv := Lib.hid hcv
          clear hmk hst hcv
          generalize hn : Form.rv b a e (6 + k) = n at *
          clear hn
          go_wp2_with (
            go_at_call 44
            with_reducible refine (SK.out).mono ?_
            rintro r w5 ⟨n', a', e', h1, rfl, hm⟩
            rw [Hst.out] at h1
            cases h1
            have HT5 := Lib.hid (HT.out.read hm ho hRg hBg)
            have hcc := HT5.out.sp.cell_some (6 + k) (by omega)
            have hff := HT5.out.sp.frozen (6 + k)
            obtain ⟨old, hcc⟩ := hcc
            clear hm)
          go_roundw
          case rel => exact ⟨k + 1, by omega, by go_num, HT5.out.lay (by omega) _ Hcv.out HoB.out hRB hBg (by omega)⟩
          case measure => simp [intOf]; omega
        · have hk16 : k = 16 := by omega
          subst hk16
          have H22 := Lib.hid (show TK w wr g v b a e w.heap.size B 22 22 from HT.out)
          have Q22 := Lib.hid (Form.rst_step b a e 22)
          have Q23 := Lib.hid (Form.rst_step b a e 23)
          have Q24 := Lib.hid (Form.rst_step b a e 24)
          have V22 := Form.rv_le b a e 22
          have V23 := Form.rv_le b a e 23
          have V24 := Form.rv_le b a e 24
          rw [show Form.mst 22 = 9223372036854775807 from rfl] at V22 Q22
          rw [show Form.mst 23 = 4294967295 from rfl] at V23 Q23
          rw [show Form.mst 24 = 9223372036854775807 from rfl] at V24 Q24
          have C22 := Lib.hid (show (Sp.taken b a e).cells.getD 22 undef = .int .i64 (Form.rv b a e 22 : Nat) from rfl)
          have C23 := Lib.hid (show (Sp.taken b a e).cells.getD 23 undef = .int .u32 (Form.rv b a e 23 : Nat) from rfl)
          have C24 := Lib.hid (show (Sp.taken b a e).cells.getD 24 undef = .int .i64 (Form.rv b a e 24 : Nat) from rfl)
          have l22 := Hle.out 22
          have l23 := Hle.out 23
          have l24 := Hle.out 24
          have B22 := Lib.hid (And.intro l22 (And.intro l23 l24))
          clear HT l22 l23 l24
          go_wp2_with (first
            | (go_at_call 42; first
                | (with_reducible refine (small_z g v b (Form.rst b a e 22).1 (Form.rst b a e 22).2 9223372036854775807 9223372036854775807 rfl _ H22.out.rd H22.out.bs B22.out.1 hl (by decide)).mono ?_
                   rintro r w5 ⟨n', a', e', h1, rfl, hm⟩
                   rw [Q22.out] at h1
                   cases h1
                   have T22 := Lib.hid (H22.out.read hm ho hRg hBg)
                   obtain ⟨old22, hc22⟩ := T22.out.sp.cell_some 22 (by omega)
                   have hf22 := T22.out.sp.frozen 22
                   have H23 := Lib.hid (T22.out.lay (by omega) _ C22.out HoB.out hRB hBg (by omega))
                   clear hm)
                | (with_reducible refine (small_z g v b (Form.rst b a e 23).1 (Form.rst b a e 23).2 4294967295 4294967295 rfl _ H23.out.rd H23.out.bs B22.out.2.1 hl (by decide)).mono ?_
                   rintro r w6 ⟨n', a', e', h1, rfl, hm⟩
                   rw [Q23.out] at h1
                   cases h1
                   have T23 := Lib.hid (H23.out.read hm ho hRg hBg)
                   obtain ⟨old23, hc23⟩ := T23.out.sp.cell_some 23 (by omega)
                   have hf23 := T23.out.sp.frozen 23
                   have H24 := Lib.hid (T23.out.lay (by omega) _ C23.out HoB.out hRB hBg (by omega))
                   clear hm)
                | (with_reducible refine (small_z g v b (Form.rst b a e 24).1 (Form.rst b a e 24).2 9223372036854775807 9223372036854775807 rfl _ H24.out.rd H24.out.bs B22.out.2.2 hl (by decide)).mono ?_
                   rintro r w7 ⟨n', a', e', h1, rfl, hm⟩
                   rw [Q24.out] at h1
                   cases h1
                   have T24 := Lib.hid (H24.out.read hm ho hRg hBg)
                   obtain ⟨old24, hc24⟩ := T24.out.sp.cell_some 24 (by omega)
                   have hf24 := T24.out.sp.frozen 24
                   have H25 := Lib.hid (T24.out.lay (by omega) _ C24.out HoB.out hRB hBg (by omega))
                   have HS25 := Lib.hid (show SpAt _ B (Sp.taken b a e) from H25.out.sp)
                   clear hm))
            | (refine wpList_load_row rfl 27 (.tmp 3) rfl _ rfl _ _ _ _ HS25.out Try.underlying27 rfl (show _ = some 25 by kernel_rfl) ?_)
            | (go_at_call 54; fail))
          clear hc22 hf22 hc23 hf23 hc24 hf24 V22 V23 V24
          have HM := Lib.hid (fun W => may_w (Sp.taken b a e) W (Sp.taken_ok b a e))
          have Hcs := Lib.hid (show (Sp.taken b a e).cells = (Sp.taken b a e).cells from rfl)
          obtain ⟨mb, hmb⟩ : ∃ mb, (Sp.taken b a e).mayB = mb := ⟨_, rfl⟩
          have Hmb := Lib.hid hmb
          rw [hmb] at HM
          clear hmb
          cases mb with
          | true =>
            go_wp2_with (first
              | (
                go_at_call 54
                refine (HM.out _).mono ?_
                rintro r w8 ⟨rfl, hB⟩
                have HS8 := Lib.hid (HS25.out.below hB)
                have HZ8 := Lib.hid (H25.out.rz.below hB)
                have HR8 := Lib.hid (H25.out.rd.keeps hB.block)
                have HG8 := Lib.hid (H25.out.gr.trans (below_grown' hB))
                clear hB)
              | (refine wpList_load_row rfl 27 (.tmp 3) rfl _ rfl _ _ _ _ HS8.out Try.underlying27 rfl (show _ = some 25 by kernel_rfl) ?_)
              | (refine wpList_store_rowTo rfl 27 (.tmp 2) (.tmp 57) rfl rfl _ (Sp.taken b a e).cells rfl rfl 27 Sp.zero.cells HZ8.out (show _ = some 25 by kernel_rfl) rfl (cells_one _) ?_))
            have hres := setRow_heap w8 w.heap.size _ (Sp.taken b a e).cells _ _ HZ8.out
            refine bodyPost_ret (v := .agg (Sp.taken b a e).cells) (results_cell_row rfl _ _ w.heap.size 27 _ _ _ rfl hres Try.underlying27 rfl (show _ = some 25 by kernel_rfl)) rfl ?_
            exact took_yes Hmb.out rfl (setRow_moved HR8.out HG8.out (Nat.le_refl _) hRg)
          | false =>
            go_wp2_with (first
              | (
                go_at_call 54
                refine (HM.out _).mono ?_
                rintro r w8 ⟨rfl, hB⟩
                have HZ8 := Lib.hid (H25.out.rz.below hB)
                have HR8 := Lib.hid (H25.out.rd.keeps hB.block)
                have HG8 := Lib.hid (H25.out.gr.trans (below_grown' hB))
                clear hB)
              | (
                go_at_call 75
                refine (fail_w _ _ _ _ (5 : Int) _ HR8.out).mono ?_
                rintro r w9 ⟨rfl, hm⟩
                have HR9 := Lib.hid hm.1
                have HG9 := Lib.hid (HG8.out.trans hm.2)
                have HZ9 := Lib.hid (HZ8.out.kept hm.2 (by simpa using hRg))
                clear hm)
              | (refine wpList_store_rowTo rfl 27 (.tmp 2) (.tmp 56) rfl rfl _ Sp.zero.cells rfl rfl 27 Sp.zero.cells HZ9.out (show _ = some 25 by kernel_rfl) rfl (cells_one _) ?_))
            have hres := setRow_heap w9 w.heap.size _ Sp.zero.cells _ _ HZ9.out
            refine bodyPost_ret (v := .agg Sp.zero.cells) (results_cell_row rfl _ _ w.heap.size 27 _ _ _ rfl hres Try.underlying27 rfl (show _ = some 25 by kernel_rfl)) rfl ?_
            exact took_no Hmb.out rfl (setRow_moved HR9.out HG9.out (Nat.le_refl _) hRg)
end Go.Proofs.Ytoflehlkacofjaa
/- Walk of Read. -/
namespace Go.Proofs.Ytoflehlkacofjaa
open Go.ChangeShapes Go.WideShapes Go.ChangeAt Go.RowKit
set_option linter.unusedVariables false
theorem results_cell_tmp {fn : Func} {p q : Tmp} {ty : TypeId} (h : fn.results = #[.cell p ty, .tmp q]) (tmps : Array Value) (w : World) (g : Nat) (t : TypeId) (cs : Array Value) (fr : Nat × Nat) (d : TypeDesc) (x : Value)
    (hp : tmps.getD p undef = .pointer (some ⟨g, 0, none⟩)) (hq : tmps.getD q undef = x) (hg : w.heap[g]? = some (.cells cs t fr))
    (hd : (match d with | .struct _ | .array _ _ => true | _ => false) = true) (hu : Try.prog.underlying ty = some d) (hi : (Try.prog.info? ty).map (·.size) = some cs.size) :
    (results fn tmps).run Try.prog w = .ok (.tuple #[.agg cs, x]) w := by
  have hp' : tmps[p]?.getD undef = .pointer (some ⟨g, 0, none⟩) := by simpa using hp
  have hq' : tmps[q]?.getD undef = x := by simpa using hq
  have hl := run_loadVar_row (P := Try.prog) w g t ty cs fr d hg hu (by cases d <;> first | rfl | exact hd) hi
  simp [results, h, hp', hq', asAddr, hl]

namespace Sp
/-- The form is read whole. -/
def goodB (b : List UInt8) : Bool := (taken b 0 0).mayB && (decide ((Form.rst b 0 0 25).2 = 0) && decide (b.length ≤ (Form.rst b 0 0 25).1))
def back (b : List UInt8) : Sp := if goodB b then taken b 0 0 else zero
end Sp
end Go.Proofs.Ytoflehlkacofjaa
/- Plain: forms are read back, and what is read is a form. -/
namespace Go.Proofs.Ytoflehlkacofjaa
open Go.ChangeShapes Go.WideShapes Go.ChangeAt Go.RowKit
set_option linter.unusedVariables false
namespace Form
theorem small_at (F rest : List UInt8) (n a most : Nat) (hn : n ≤ most) (hm : most < 2 ^ 64) (h : F.drop a = nat n ++ rest) : small F a 0 most = (n, a + (nat n).length, 0) := by
  unfold small
  rw [if_neg (by simp), rd_back F rest n a (by omega) h]
  simp only [if_true]
  rw [if_neg (by omega)]
theorem small_good {b : List UInt8} {a : Nat} {e : Int} {most n a' : Nat} (h : small b a e most = (n, a', 0)) : e = 0 ∧ a' = a + (nat n).length ∧ b.drop a = nat n ++ b.drop a' := by
  unfold small at h
  split at h
  · rename_i h0; cases h; exact absurd rfl h0
  · rename_i h0
    obtain ⟨r, hr⟩ : ∃ r, rd 0 0 (b.drop a) = r := ⟨_, rfl⟩
    simp only [hr] at h
    split at h
    · rename_i h1
      split at h
      · cases h
      · cases h
        obtain ⟨r1, r2, r3⟩ := r
        simp only at h1
        subst h1
        obtain ⟨m, h2, h3, ⟨t, h4⟩, _, _⟩ := rd_form _ _ _ _ _ hr
        rw [Nat.pow_zero, Nat.mul_one, Nat.zero_add] at h2
        rw [Nat.zero_add] at h3
        subst h2 h3
        refine ⟨by omega, rfl, ?_⟩
        rw [h4, ← List.drop_drop, h4, List.drop_left]
    · rename_i h1
      have : ((r.2.2 : Nat) : Int) = 0 := by have := congrArg (fun x => x.2.2) h; simpa using this
      omega
theorem u64_of {n : Int} (h0 : 0 ≤ n) (h : n < 18446744073709551616) : ((u64 n : Nat) : Int) = n := by unfold u64; omega
theorem u64_nat {n : Nat} (h : n < 2 ^ 64) : u64 (n : Int) = n := by unfold u64; omega
end Form
namespace Sp
/-- Two that agree in all that is seen. -/
structure Alike (s t : Sp) : Prop where
  number : s.number = t.number
  route : s.route = t.route
  tick : s.tick = t.tick
  lot : s.lot = t.lot
  band : s.band = t.band
  limit : s.limit = t.limit
  sh : ∀ i, i < 16 → s.sh i = t.sh i
  credit : s.credit = t.credit
  last : s.last = t.last
  first : s.first = t.first
theorem Alike.cells {s t : Sp} (h : Alike s t) : s.cells = t.cells := by
  unfold Sp.cells
  rw [h.number, h.route, h.tick, h.lot, h.band, h.limit, h.credit, h.last, h.first, h.sh 0 (by decide), h.sh 1 (by decide), h.sh 2 (by decide), h.sh 3 (by decide), h.sh 4 (by decide), h.sh 5 (by decide), h.sh 6 (by decide), h.sh 7 (by decide), h.sh 8 (by decide), h.sh 9 (by decide), h.sh 10 (by decide), h.sh 11 (by decide), h.sh 12 (by decide), h.sh 13 (by decide), h.sh 14 (by decide), h.sh 15 (by decide)]
theorem Alike.rows {s t : Sp} (h : Alike s t) : ∀ n, n ≤ 16 → s.all n = t.all n ∧ s.up n = t.up n ∧ s.down n = t.down n := by
  intro n
  induction n with
  | zero => intro _; exact ⟨rfl, rfl, rfl⟩
  | succ n ih =>
    intro hn
    obtain ⟨h1, h2, h3⟩ := ih (by omega)
    rw [all_succ, all_succ, up_succ, up_succ, down_succ, down_succ, h1, h2, h3, h.sh n (by omega)]
    exact ⟨rfl, rfl, rfl⟩
theorem Alike.mayB {s t : Sp} (h : Alike s t) : s.mayB = t.mayB := by
  obtain ⟨h1, h2, h3⟩ := h.rows 16 (Nat.le_refl _)
  unfold Sp.mayB
  rw [h1, h2, h3, h.number, h.route, h.tick, h.lot, h.band, h.limit, h.credit, h.first]

/-- Its i-th number. -/
def num (s : Sp) (i : Nat) : Nat := if i < 6 then Form.u64 (s.hd i) else if i < 22 then Form.fold (s.sh (i - 6)) else if i = 22 then Form.u64 s.credit else if i = 23 then Form.u64 s.last else Form.u64 s.first
def formN (s : Sp) (i : Nat) : List UInt8 := (List.range i).flatMap fun j => Form.nat (s.num j)
theorem formN_succ (s : Sp) (k : Nat) : s.formN (k + 1) = s.formN k ++ Form.nat (s.num k) := by unfold formN; rw [List.range_succ, List.flatMap_append]; simp
theorem formN_form (s : Sp) : s.formN 25 = s.form := by
  unfold formN form formA formB
  rw [show List.range 25 = [0, 1, 2, 3, 4, 5, 6, 7, 8, 9, 10, 11, 12, 13, 14, 15, 16, 17, 18, 19, 20, 21, 22, 23, 24] from rfl, show List.range 6 = [0, 1, 2, 3, 4, 5] from rfl, show List.range 16 = [0, 1, 2, 3, 4, 5, 6, 7, 8, 9, 10, 11, 12, 13, 14, 15] from rfl]
  simp only [List.flatMap_cons, List.flatMap_nil, List.append_assoc, List.append_nil]
  rfl
theorem formN_split (s : Sp) : ∀ n i, i < n → ∃ t, s.formN n = s.formN i ++ (Form.nat (s.num i) ++ t) := by
  intro n
  induction n with
  | zero => intro i h; omega
  | succ n ih =>
    intro i h
    by_cases hi : i = n
    · subst hi; exact ⟨[], by rw [formN_succ]; simp⟩
    · obtain ⟨t, ht⟩ := ih i (by omega)
      exact ⟨t ++ Form.nat (s.num n), by rw [formN_succ, ht]; simp only [List.append_assoc]⟩
theorem may_all {s : Sp} (h : s.mayB = true) : (1 ≤ s.number ∨ s.number ≠ 0) ∧ (1 ≤ s.route ∧ s.route ≤ 8) ∧ (1 ≤ s.tick ∧ s.tick ≤ 10000000) ∧ (1 ≤ s.lot ∧ s.lot ≤ 1000000) ∧ (0 ≤ s.band ∧ s.band ≤ 10000000) ∧ (1 ≤ s.limit ∧ s.limit ≤ 10000000) ∧ (0 ≤ s.credit ∧ s.credit ≤ 10000000) ∧ (1 ≤ s.first ∧ s.first ≤ 10000000) := by
  unfold mayB Form.priceB Form.inB at h
  simp only [Bool.and_eq_true, decide_eq_true_eq] at h
  omega
theorem num_ways (s : Sp) (i : Nat) (hi : i < 25) : (i = 0 ∧ s.num i = Form.u64 s.number) ∨ (i = 1 ∧ s.num i = Form.u64 s.route) ∨ (i = 2 ∧ s.num i = Form.u64 s.tick) ∨ (i = 3 ∧ s.num i = Form.u64 s.lot) ∨ (i = 4 ∧ s.num i = Form.u64 s.band) ∨ (i = 5 ∧ s.num i = Form.u64 s.limit) ∨
    (6 ≤ i ∧ i < 22 ∧ s.num i = Form.fold (s.sh (i - 6))) ∨ (i = 22 ∧ s.num i = Form.u64 s.credit) ∨ (i = 23 ∧ s.num i = Form.u64 s.last) ∨ (i = 24 ∧ s.num i = Form.u64 s.first) := by
  by_cases h6 : i < 6
  · have h : i = 0 ∨ i = 1 ∨ i = 2 ∨ i = 3 ∨ i = 4 ∨ i = 5 := by omega
    rcases h with rfl | rfl | rfl | rfl | rfl | rfl <;> simp [num, hd]
  · by_cases h22 : i < 22
    · have : s.num i = Form.fold (s.sh (i - 6)) := by unfold num; rw [if_neg h6, if_pos h22]
      exact .inr (.inr (.inr (.inr (.inr (.inr (.inl ⟨by omega, h22, this⟩))))))
    · have h : i = 22 ∨ i = 23 ∨ i = 24 := by omega
      rcases h with rfl | rfl | rfl <;> simp [num]
theorem mst_ways (i : Nat) (hi : i < 25) : (i = 0 ∧ Form.mst i = 4294967295) ∨ (i = 1 ∧ Form.mst i = 255) ∨ (2 ≤ i ∧ i < 6 ∧ Form.mst i = 9223372036854775807) ∨ (6 ≤ i ∧ i < 22 ∧ Form.mst i = 18446744073709551615) ∨ (i = 22 ∧ Form.mst i = 9223372036854775807) ∨ (i = 23 ∧ Form.mst i = 4294967295) ∨ (i = 24 ∧ Form.mst i = 9223372036854775807) := by
  unfold Form.mst
  repeat' split
  all_goals omega
theorem num_most (s : Sp) (h : s.ok) (hm : s.mayB = true) (i : Nat) (hi : i < 25) : s.num i ≤ Form.mst i := by
  have h1 := may_all hm
  have hn := h.number
  have hr := h.last
  obtain ⟨-, h3, h4, h5, h6, h7, h8, h9⟩ := h1
  have hu : ∀ x : Int, 0 ≤ x → x < 18446744073709551616 → Form.u64 x = x.toNat := fun x h0 h1 => by have := Form.u64_of h0 h1; omega
  rcases num_ways s i hi with ⟨e, q⟩ | ⟨e, q⟩ | ⟨e, q⟩ | ⟨e, q⟩ | ⟨e, q⟩ | ⟨e, q⟩ | ⟨e, e2, q⟩ | ⟨e, q⟩ | ⟨e, q⟩ | ⟨e, q⟩ <;> rw [q] <;> have h10 := mst_ways i hi
  · have := hu s.number (by omega) (by omega); omega
  · have := hu s.route (by omega) (by omega); omega
  · have := hu s.tick (by omega) (by omega); omega
  · have := hu s.lot (by omega) (by omega); omega
  · have := hu s.band (by omega) (by omega); omega
  · have := hu s.limit (by omega) (by omega); omega
  · have := Form.fold_lt (h.sh (i - 6)).1 (h.sh (i - 6)).2; omega
  · have := hu s.credit (by omega) (by omega); omega
  · have := hu s.last (by omega) (by omega); omega
  · have := hu s.first (by omega) (by omega); omega
theorem step_form (s : Sp) (rest : List UInt8) (h : s.ok) (hm : s.mayB = true) (i : Nat) (hi : i < 25) : Form.small (s.form ++ rest) (s.formN i).length 0 (Form.mst i) = (s.num i, (s.formN (i + 1)).length, 0) := by
  obtain ⟨t, ht⟩ := formN_split s 25 i hi
  rw [formN_form] at ht
  rw [Form.small_at (s.form ++ rest) (t ++ rest) (s.num i) _ _ (num_most s h hm i hi) (Form.mst_lt i) (by rw [ht]; simp only [List.append_assoc]; rw [List.drop_left])]
  rw [formN_succ, List.length_append]
theorem rst_form (s : Sp) (rest : List UInt8) (h : s.ok) (hm : s.mayB = true) : ∀ i, i ≤ 25 → Form.rst (s.form ++ rest) 0 0 i = ((s.formN i).length, 0) := by
  intro i
  induction i with
  | zero => intro _; rfl
  | succ i ih =>
    intro hi
    show (Form.small (s.form ++ rest) (Form.rst (s.form ++ rest) 0 0 i).1 (Form.rst (s.form ++ rest) 0 0 i).2 (Form.mst i)).2 = _
    rw [ih (by omega)]
    show (Form.small (s.form ++ rest) (s.formN i).length 0 (Form.mst i)).2 = _
    rw [step_form s rest h hm i (by omega)]
theorem rv_form (s : Sp) (rest : List UInt8) (h : s.ok) (hm : s.mayB = true) (i : Nat) (hi : i < 25) : Form.rv (s.form ++ rest) 0 0 i = s.num i := by
  unfold Form.rv
  rw [rst_form s rest h hm i (by omega)]
  show (Form.small (s.form ++ rest) (s.formN i).length 0 (Form.mst i)).1 = _
  rw [step_form s rest h hm i hi]
theorem taken_form (s : Sp) (rest : List UInt8) (h : s.ok) (hm : s.mayB = true) : Alike (taken (s.form ++ rest) 0 0) s := by
  have hr := rv_form s rest h hm
  have h1 := may_all hm
  have hn := h.number
  have hl := h.last
  obtain ⟨-, h3, h4, h5, h6, h7, h8, h9⟩ := h1
  refine ⟨?_, ?_, ?_, ?_, ?_, ?_, ?_, ?_, ?_, ?_⟩
  · show ((Form.rv (s.form ++ rest) 0 0 0 : Nat) : Int) = _; rw [hr 0 (by decide)]; exact Form.u64_of (n := s.number) (by omega) (by omega)
  · show ((Form.rv (s.form ++ rest) 0 0 1 : Nat) : Int) = _; rw [hr 1 (by decide)]; exact Form.u64_of (n := s.route) (by omega) (by omega)
  · show ((Form.rv (s.form ++ rest) 0 0 2 : Nat) : Int) = _; rw [hr 2 (by decide)]; exact Form.u64_of (n := s.tick) (by omega) (by omega)
  · show ((Form.rv (s.form ++ rest) 0 0 3 : Nat) : Int) = _; rw [hr 3 (by decide)]; exact Form.u64_of (n := s.lot) (by omega) (by omega)
  · show ((Form.rv (s.form ++ rest) 0 0 4 : Nat) : Int) = _; rw [hr 4 (by decide)]; exact Form.u64_of (n := s.band) (by omega) (by omega)
  · show ((Form.rv (s.form ++ rest) 0 0 5 : Nat) : Int) = _; rw [hr 5 (by decide)]; exact Form.u64_of (n := s.limit) (by omega) (by omega)
  · intro j hj
    show Form.unfold_ (Form.rv (s.form ++ rest) 0 0 (6 + j)) = _
    rw [hr (6 + j) (by omega)]
    have : s.num (6 + j) = Form.fold (s.sh j) := by unfold num; rw [if_neg (by omega), if_pos (by omega), Nat.add_sub_cancel_left]
    rw [this, Form.unfold_fold]
  · show ((Form.rv (s.form ++ rest) 0 0 22 : Nat) : Int) = _; rw [hr 22 (by decide)]; exact Form.u64_of (by omega) (by omega)
  · show ((Form.rv (s.form ++ rest) 0 0 23 : Nat) : Int) = _; rw [hr 23 (by decide)]; exact Form.u64_of (by omega) (by omega)
  · show ((Form.rv (s.form ++ rest) 0 0 24 : Nat) : Int) = _; rw [hr 24 (by decide)]; exact Form.u64_of (by omega) (by omega)
theorem rst_fine (b : List UInt8) : ∀ n i, (Form.rst b 0 0 (i + n)).2 = 0 → (Form.rst b 0 0 i).2 = 0 := by
  intro n
  induction n with
  | zero => intro i h; exact h
  | succ n ih =>
    intro i h
    have h1 : (Form.rst b 0 0 (i + n)).2 = 0 := by
      have e : Form.small b (Form.rst b 0 0 (i + n)).1 (Form.rst b 0 0 (i + n)).2 (Form.mst (i + n)) = (Form.rv b 0 0 (i + n), (Form.rst b 0 0 (i + n + 1)).1, 0) := by
        rw [Form.rst_step, show (Form.rst b 0 0 (i + n + 1)).2 = 0 from h]
      exact (Form.small_good e).1
    exact ih i h1
theorem rst_read (b : List UInt8) (s : Sp) (hs : ∀ i, i < 25 → s.num i = Form.rv b 0 0 i) (h : (Form.rst b 0 0 25).2 = 0) : ∀ i, i ≤ 25 → b = s.formN i ++ b.drop (Form.rst b 0 0 i).1 ∧ (Form.rst b 0 0 i).1 = (s.formN i).length := by
  intro i
  induction i with
  | zero => intro _; exact ⟨rfl, rfl⟩
  | succ i ih =>
    intro hi
    obtain ⟨h1, h2⟩ := ih (by omega)
    have e0 : (Form.rst b 0 0 (i + 1)).2 = 0 := rst_fine b (25 - (i + 1)) (i + 1) (by rw [show i + 1 + (25 - (i + 1)) = 25 by omega]; exact h)
    have e : Form.small b (Form.rst b 0 0 i).1 (Form.rst b 0 0 i).2 (Form.mst i) = (Form.rv b 0 0 i, (Form.rst b 0 0 (i + 1)).1, 0) := by
      rw [Form.rst_step, e0]
    obtain ⟨_, h3, h4⟩ := Form.small_good e
    rw [formN_succ, hs i (by omega)]
    refine ⟨?_, by rw [List.length_append, h3, h2]⟩
    rw [List.append_assoc, ← h4]; exact h1
theorem taken_num (b : List UInt8) (i : Nat) (hi : i < 25) : (taken b 0 0).num i = Form.rv b 0 0 i := by
  rcases num_ways (taken b 0 0) i hi with ⟨e, q⟩ | ⟨e, q⟩ | ⟨e, q⟩ | ⟨e, q⟩ | ⟨e, q⟩ | ⟨e, q⟩ | ⟨e, e2, q⟩ | ⟨e, q⟩ | ⟨e, q⟩ | ⟨e, q⟩ <;> rw [q]
  · subst e; exact Form.u64_nat (Form.rv_lt ..)
  · subst e; exact Form.u64_nat (Form.rv_lt ..)
  · subst e; exact Form.u64_nat (Form.rv_lt ..)
  · subst e; exact Form.u64_nat (Form.rv_lt ..)
  · subst e; exact Form.u64_nat (Form.rv_lt ..)
  · subst e; exact Form.u64_nat (Form.rv_lt ..)
  · show Form.fold (Form.unfold_ (Form.rv b 0 0 (6 + (i - 6)))) = _
    rw [Form.fold_unfold, show 6 + (i - 6) = i by omega]
  · subst e; exact Form.u64_nat (Form.rv_lt ..)
  · subst e; exact Form.u64_nat (Form.rv_lt ..)
  · subst e; exact Form.u64_nat (Form.rv_lt ..)
end Sp
end Go.Proofs.Ytoflehlkacofjaa
/- The law of bands. -/
namespace Go.Proofs.Ytoflehlkacofjaa
open Go.ChangeShapes Go.WideShapes Go.ChangeAt Go.RowKit
set_option linter.unusedVariables false
namespace Sp
end Sp
/-- A whole load that a guard lets happen. -/
theorem wpList_load_sp {ops : Array Oper} {rest : List Oper} {o : Oper} {a : Act} {w : World} {Q : Exit → Act → World → Prop} {B : Nat} {s : Sp} (hw : Region.wanted o (yielded ops a.tmps) = true) (x : Operand) (ho : o.op = .load 27 x)
    (hx : a.eval x = .pointer (some ⟨B, 0, none⟩)) (h : SpAt w B s) (k : wpList Try.prog ops Q rest (a.put o.dst (.agg s.cells)) w) : wpList Try.prog ops Q (o :: rest) a w := by
  unfold wpList
  rw [if_pos hw]
  exact .inl (wp_load_row 27 x ho B hx 27 s.cells (0, 0) _ h Try.underlying27 rfl (show _ = some 25 by kernel_rfl) k)

end Go.Proofs.Ytoflehlkacofjaa
/- The document's form of a contract's data: the walk. -/
namespace Go.Proofs.Ytoflehlkacofjaa
open Go.ChangeShapes Go.WideShapes Go.ChangeAt Go.RowKit
set_option linter.unusedVariables false
/-- The data lie at the first new block, and the bytes so far in a row beyond it. -/
structure FInv (w W : World) (s : Sp) (p : Option Addr) (k c : Nat) (l : List UInt8) : Prop where
  at_ : SpAt W w.heap.size s
  bel : Below w.heap.size w W
  len : k = l.length
  own : OB W (w.heap.size + 1) 5 (.slice p k c) l
  size : w.heap.size + 1 ≤ W.heap.size
theorem FInv.next {w W W1 : World} {s : Sp} {p : Option Addr} {k c : Nat} {l : List UInt8} (h : FInv w W s p k c l) (hB : Below W.heap.size W W1) : FInv w W1 s p k c l :=
  ⟨h.at_.below hB, h.bel.trans (hB.mono h.bel.size), h.len, h.own.below hB, Nat.le_trans h.size hB.size⟩
theorem FInv.put {w W W1 : World} {s : Sp} {p p1 : Option Addr} {k c k1 c1 : Nat} {l l1 : List UInt8} (h : FInv w W s p k c l) (hn : k1 = l1.length) (ho : OB W1 (w.heap.size + 1) 5 (.slice p1 k1 c1) l1) (hg : W.grownBy W1 (Value.slice p k c).ownBlock) : FInv w W1 s p1 k1 c1 l1 := by
  have hl : ∀ g, (Value.slice p k c).ownBlock = some g → w.heap.size + 1 ≤ g := fun g e => by
    have h2 := h.own; have h3 := h.len; subst h3; exact (h2.lt g e).1
  refine ⟨?_, h.bel.grown hg h.bel.size (fun g e => Nat.le_of_succ_le (hl g e)), hn, ho, Nat.le_trans h.size hg.size⟩
  have hb := h.at_
  unfold SpAt at *
  rw [hg.block w.heap.size (by have := h.size; omega) (fun e => by have := hl _ e.symm; omega)]
  exact hb
theorem sum_le {x y a : Nat} (h1 : x ≤ a) (h2 : y ≤ 10) (h : a ≤ 1000) : x + y ≤ 140737488355328 := by omega
namespace Sp
theorem num_lt (s : Sp) (h : s.ok) (i : Nat) : s.num i < 2 ^ 64 := by
  unfold num
  repeat' split
  all_goals first | exact Form.u64_lt _ | exact Form.fold_lt (h.sh _).1 (h.sh _).2
theorem formN_le (s : Sp) (h : s.ok) : ∀ k, (s.formN k).length ≤ 10 * k := by
  intro k
  induction k with
  | zero => exact Nat.le_refl _
  | succ k ih => rw [formN_succ, List.length_append]; have := Form.nat_len10 (s.num_lt h k); omega
theorem num_sh (s : Sp) (k : Nat) (hk : k < 16) : Form.fold (s.sh k) = s.num (6 + k) := by
  unfold num; rw [if_neg (by omega), if_pos (by omega), Nat.add_sub_cancel_left]
end Sp
set_option maxRecDepth 100000 in
set_option maxHeartbeats 3200000 in
theorem refform_w (s : Sp) (w : World) (h : s.ok) : Calls Try.prog 63 #[.agg s.cells] w fun r w' => ∃ p k c, r = .returned (.slice p k c) ∧ k = s.form.length ∧ OB w' w.heap.size 5 (.slice p k c) s.form ∧ Below w.heap.size w w' := by
  have HI := Lib.hid (show FInv w (w.alloc (.cells s.cells 27)) s none 0 0 (s.formN 0) from ⟨SpAt.new w s, (Below.refl w.heap.size w).alloc (Nat.le_refl _) _, rfl, OB.nil _ _ _, by simp⟩)
  have hu : ∀ x : Int, 0 ≤ x → x < 18446744073709551616 → x = ((Form.u64 x : Nat) : Int) := fun x h0 h1 => (Form.u64_of h0 h1).symm
  have Hu := Lib.hid (fun i => s.num_lt h i)
  have HL := Lib.hid (fun i => s.formN_le h i)
  have H10 := Lib.hid (fun i => Form.nat_len10 (s.num_lt h i))
  have HF := Lib.hid (fun i => s.formN_succ i)
  have HE := Lib.hid s.formN_form
  have Hsh := Lib.hid h.sh
  have e0 : s.num 0 = Form.u64 s.number := rfl
  have e1 : s.num 1 = Form.u64 s.route := rfl
  have e2 : s.num 2 = Form.u64 s.tick := rfl
  have e3 : s.num 3 = Form.u64 s.lot := rfl
  have e4 : s.num 4 = Form.u64 s.band := rfl
  have e5 : s.num 5 = Form.u64 s.limit := rfl
  have e22 : s.num 22 = Form.u64 s.credit := rfl
  have e23 : s.num 23 = Form.u64 s.last := rfl
  have e24 : s.num 24 = Form.u64 s.first := rfl
  have q0 := hu s.number (by have := h.number; omega) (by have := h.number; omega)
  have q1 := hu s.route (by have := h.route; omega) (by have := h.route; omega)
  have q23 := hu s.last (by have := h.last; omega) (by have := h.last; omega)
  rw [← e0] at q0
  rw [← e1] at q1
  rw [← e23] at q23
  have C0 := Lib.hid (show s.cells[0]? = some (.int .u32 ((s.num 0 : Nat) : Int)) by rw [← q0]; rfl)
  have C1 := Lib.hid (show s.cells[1]? = some (.int .u8 ((s.num 1 : Nat) : Int)) by rw [← q1]; rfl)
  have C23 := Lib.hid (show s.cells[23]? = some (.int .u32 ((s.num 23 : Nat) : Int)) by rw [← q23]; rfl)
  have hw0 : IntKind.u64.wrap ((s.num 0 : Nat) : Int) = ((s.num 0 : Nat) : Int) := IntWalk.u64_in _ (by have := Hu.out 0; omega)
  have hw1 : IntKind.u64.wrap ((s.num 1 : Nat) : Int) = ((s.num 1 : Nat) : Int) := IntWalk.u64_in _ (by have := Hu.out 1; omega)
  have hw23 : IntKind.u64.wrap ((s.num 23 : Nat) : Int) = ((s.num 23 : Nat) : Int) := IntWalk.u64_in _ (by have := Hu.out 23; omega)
  have hw2 : IntKind.u64.wrap s.tick = ((s.num 2 : Nat) : Int) := Form.u64_wrap _
  have hw3 : IntKind.u64.wrap s.lot = ((s.num 3 : Nat) : Int) := Form.u64_wrap _
  have hw4 : IntKind.u64.wrap s.band = ((s.num 4 : Nat) : Int) := Form.u64_wrap _
  have hw5 : IntKind.u64.wrap s.limit = ((s.num 5 : Nat) : Int) := Form.u64_wrap _
  have hw22 : IntKind.u64.wrap s.credit = ((s.num 22 : Nat) : Int) := Form.u64_wrap _
  have hw24 : IntKind.u64.wrap s.first = ((s.num 24 : Nat) : Int) := Form.u64_wrap _
  clear e0 e1 e2 e3 e4 e5 e22 e23 e24 q0 q1 q23 hu h
  have d0 := (HI.out.at_.at 0).trans C0.out
  go_enter Try.func63, Try.ntmps63
  go_wp2_with (first
    | (go_at_call 51
       refine (refnat_w _ _ (Hu.out _)).mono ?_
       rintro r w1 ⟨p1, k1, c1, rfl, ho, hk, hB⟩
       have HI := Lib.hid (HI.out.next hB)
       have Hm := Lib.hid ho.rd
       clear ho hk hB)
    | (refine wpList_append_bytes rfl _ _ 39 rfl hel rfl HI.out.own rfl Hm.out (sum_le (HL.out _) (H10.out _) (by decide)) HI.out.size ?_
       intro p2 k2 c2 w2 hk ho hg
       rw [← HF.out] at hk ho
       have HI := Lib.hid (HI.out.put hk ho hg)
       simp only [Nat.reduceAdd] at HI
       have d1 := (HI.out.at_.at 1).trans C1.out
       have d2 := (HI.out.at_.at 2).trans (show s.cells[2]? = some (.int .i64 s.tick) from rfl)
       have d3 := (HI.out.at_.at 3).trans (show s.cells[3]? = some (.int .i64 s.lot) from rfl)
       have d4 := (HI.out.at_.at 4).trans (show s.cells[4]? = some (.int .i64 s.band) from rfl)
       have d5 := (HI.out.at_.at 5).trans (show s.cells[5]? = some (.int .i64 s.limit) from rfl)
       clear hk ho hg))
  go_loopw [3, 4] (fun b i wr => ∃ (k : Nat) (p : Option Addr) (m c : Nat), k ≤ 16 ∧ i = .int .i64 (k : Int) ∧ b = .slice p m c ∧ FInv w wr s p m c (s.formN (6 + k))) (fun _ i _ => 16 - (intOf i).toNat)
  case atStart => exact ⟨0, _, _, _, by decide, rfl, rfl, HI.out⟩
  case round =>
    clear HI
    obtain ⟨k, p, m, c, hk, rfl, rfl, hI⟩ := hrel
    have HI := Lib.hid hI
    clear hI
    by_cases hlt : k < 16
    · have hck := HI.out.at_.sh k hlt
      obtain ⟨hx1, hx2⟩ := Hsh.out k
      have Hnum := Lib.hid (s.num_sh k hlt)
      generalize s.sh k = x at *
      go_wp2_with (first
        | (go_at_call 52
           refine (refint_w _ _ hx1 hx2).mono ?_
           rintro r w1 ⟨p1, k1, c1, rfl, ho, hk, hB⟩
           rw [Hnum.out] at ho
           have HI := Lib.hid (HI.out.next hB)
           have Hm := Lib.hid ho.rd
           clear ho hk hB)
        | (refine wpList_append_bytes rfl _ _ 39 rfl hel rfl HI.out.own rfl Hm.out (sum_le (HL.out _) (H10.out _) (by omega)) HI.out.size ?_
           intro p2 k2 c2 w2 hk2 ho hg
           rw [← HF.out] at hk2 ho
           have HI := Lib.hid (HI.out.put hk2 ho hg)
           clear hk2 ho hg))
      go_roundw
      case rel => exact ⟨k + 1, _, _, _, by omega, by go_num, rfl, HI.out⟩
      case measure => simp [intOf]; omega
    · have hk16 : k = 16 := by omega
      subst hk16
      have d22 := (HI.out.at_.at 22).trans (show s.cells[22]? = some (.int .i64 s.credit) from rfl)
      go_wp2_with (first
        | (go_at_call 51
           refine (refnat_w _ _ (Hu.out _)).mono ?_
           rintro r w1 ⟨p1, k1, c1, rfl, ho, hk, hB⟩
           have HI := Lib.hid (HI.out.next hB)
           have Hm := Lib.hid ho.rd
           clear ho hk hB)
        | (refine wpList_append_bytes rfl _ _ 39 rfl hel rfl HI.out.own rfl Hm.out (sum_le (HL.out _) (H10.out _) (by decide)) HI.out.size ?_
           intro p2 k2 c2 w2 hk ho hg
           rw [← HF.out] at hk ho
           have HI := Lib.hid (HI.out.put hk ho hg)
           simp only [Nat.reduceAdd] at HI
           have d23 := (HI.out.at_.at 23).trans C23.out
           have d24 := (HI.out.at_.at 24).trans (show s.cells[24]? = some (.int .i64 s.first) from rfl)
           clear hk ho hg))
      go_ret
      have hfin := HI.out
      rw [HE.out] at hfin
      exact ⟨_, _, _, rfl, hfin.len, ownsRow_mono_base hfin.own (Nat.le_succ _), hfin.bel⟩
end Go.Proofs.Ytoflehlkacofjaa
