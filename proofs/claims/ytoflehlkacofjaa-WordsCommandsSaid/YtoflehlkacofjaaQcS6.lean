/- The form of a contract's data: Put. -/
import Derived.Test.YtoflehlkacofjaaQcS5
import Derived.Deep.RegionHeld3
namespace Go.Proofs.Ytoflehlkacofjaa
open Go.ChangeShapes Go.WideShapes Go.ChangeAt Go.RowKit
set_option linter.unusedVariables false
namespace Sp
def hd (s : Sp) (i : Nat) : Int := if i = 0 then s.number else if i = 1 then s.route else if i = 2 then s.tick else if i = 3 then s.lot else if i = 4 then s.band else s.limit
def hdRow (s : Sp) : Array Value := #[.int .i64 s.number, .int .i64 s.route, .int .i64 s.tick, .int .i64 s.lot, .int .i64 s.band, .int .i64 s.limit]
theorem hd_at (s : Sp) (k : Nat) (hk : k < 6) : s.hdRow[k]? = some (.int .i64 (s.hd k)) := by
  have h : k = 0 ∨ k = 1 ∨ k = 2 ∨ k = 3 ∨ k = 4 ∨ k = 5 := by omega
  rcases h with rfl | rfl | rfl | rfl | rfl | rfl <;> rfl
def formA (s : Sp) (k : Nat) : List UInt8 := (List.range k).flatMap fun i => Form.nat (Form.u64 (s.hd i))
def formB (s : Sp) (k : Nat) : List UInt8 := (List.range k).flatMap fun i => Form.nat (Form.fold (s.sh i))
theorem formA_succ (s : Sp) (k : Nat) : s.formA (k + 1) = s.formA k ++ Form.nat (Form.u64 (s.hd k)) := by unfold formA; rw [List.range_succ, List.flatMap_append]; simp
theorem formB_succ (s : Sp) (k : Nat) : s.formB (k + 1) = s.formB k ++ Form.nat (Form.fold (s.sh k)) := by unfold formB; rw [List.range_succ, List.flatMap_append]; simp
theorem formA_le (s : Sp) : ∀ k, (s.formA k).length ≤ 10 * k := by
  intro k
  induction k with
  | zero => exact Nat.le_refl _
  | succ k ih => rw [formA_succ, List.length_append]; have := Form.nat_len10 (Form.u64_lt (s.hd k)); omega
theorem formB_le (s : Sp) (h : s.ok) : ∀ k, (s.formB k).length ≤ 10 * k := by
  intro k
  induction k with
  | zero => exact Nat.le_refl _
  | succ k ih => rw [formB_succ, List.length_append]; have := Form.nat_len10 (Form.fold_lt (h.sh k).1 (h.sh k).2); omega
def form (s : Sp) : List UInt8 := s.formA 6 ++ s.formB 16 ++ Form.nat (Form.u64 s.credit) ++ Form.nat (Form.u64 s.last) ++ Form.nat (Form.u64 s.first)
end Sp
theorem grown_old {w W W' : World} {row : Option Nat} (h : Below w.heap.size w W) (k : W.grownBy W' row) : w.grownBy W' row :=
  ⟨k.os.trans h.os, k.tape.trans h.tape, k.output.trans h.output, Nat.le_trans h.size k.size, fun b hb hne => by rw [k.block b (Nat.lt_of_lt_of_le hb h.size) hne, h.block b hb]⟩
theorem near_old {w W : World} {v v' : Value} (h : Below w.heap.size w W) (k : Near W v v') : Near w v v' := k.imp id fun ⟨g, e, hg⟩ => ⟨g, e, Nat.le_trans h.size hg⟩
set_option maxRecDepth 100000 in
set_option maxHeartbeats 3200000 in
theorem put_w (base : Nat) (v : Value) (l : List UInt8) (s : Sp) (w : World) (ho : OB w base 5 v l) (h : s.ok) (hl : l.length ≤ 100000) (hb : base ≤ w.heap.size) (hm : s.mayB = true) :
    Calls Try.prog 29 #[v, .agg s.cells] w fun e w' => ∃ p k c, e = .returned (.slice p k c) ∧ k = (l ++ s.form).length ∧ OB w' base 5 (.slice p k c) (l ++ s.form) ∧ w.grownBy w' v.ownBlock ∧ Near w v (.slice p k c) := by
  have HS := Lib.hid (SpAt.new w s)
  have HM := Lib.hid (may_w s (w.alloc (.cells s.cells 27)) h)
  rw [hm] at HM
  have hnum := h.number
  have hrou := h.route
  have hlas := h.last
  have Hok := Lib.hid h
  have Ho := Lib.hid ho
  obtain ⟨pv, cv, rfl⟩ := ho.form
  have hvl : ∀ g, (Value.slice pv l.length cv).ownBlock = some g → g < w.heap.size := fun g hg => (Ho.out.lt g hg).2
  have Hvl := Lib.hid hvl
  clear ho h hvl
  go_enter Try.func29, Try.ntmps29
  go_wp2_with (first
    | (refine wpList_load_row rfl 27 (.tmp 3) rfl _ rfl _ _ _ _ HS.out Try.underlying27 rfl (show _ = some 25 by kernel_rfl) ?_)
    | (
      go_at_call 54
      refine (HM.out).mono ?_
      rintro r w1 ⟨rfl, hB⟩
      have HB1 := Lib.hid hB
      have HS1 := Lib.hid (HS.out.below hB)
      have d0 := (HS1.out.at 0).trans (show s.cells[0]? = some (.int .u32 s.number) from rfl)
      have d1 := (HS1.out.at 1).trans (show s.cells[1]? = some (.int .u8 s.route) from rfl)
      have d2 := (HS1.out.at 2).trans (show s.cells[2]? = some (.int .i64 s.tick) from rfl)
      have d3 := (HS1.out.at 3).trans (show s.cells[3]? = some (.int .i64 s.lot) from rfl)
      have d4 := (HS1.out.at 4).trans (show s.cells[4]? = some (.int .i64 s.band) from rfl)
      have d5 := (HS1.out.at 5).trans (show s.cells[5]? = some (.int .i64 s.limit) from rfl)
      clear hB))
  have HW := Lib.hid (show Below w.heap.size w (w1.alloc (.cells s.hdRow 2)) from ((((Below.refl w.heap.size w).alloc (Nat.le_refl _) (.cells s.cells 27)).trans (HB1.out.mono (by simp))).alloc (by have := HB1.out.size; simp at this; omega) _))
  have HSW := Lib.hid (HS1.out.below ((Below.refl w1.heap.size w1).alloc (Nat.le_refl _) (.cells s.hdRow 2)))
  have HRW := Lib.hid (show (w1.alloc (.cells s.hdRow 2)).heap[w1.heap.size]? = some (.cells s.hdRow 2) from heap_alloc_new w1 _)
  have hsz1 : w.heap.size < w1.heap.size := by have := HB1.out.size; simp at this; omega
  have hszW : (w1.alloc (.cells s.hdRow 2)).heap.size = w1.heap.size + 1 := heap_alloc_size _ _
  have HszW := Lib.hid hszW
  have HoW := Lib.hid (Ho.out.keeps (show Keeps w (w1.alloc (.cells s.hdRow 2)) from HW.out.block))
  obtain ⟨W2, hW2⟩ : ∃ W2, w1.alloc (.cells s.hdRow 2) = W2 := ⟨_, rfl⟩
  have hW2' : w1.alloc (.cells #[.int .i64 s.number, .int .i64 s.route, .int .i64 s.tick, .int .i64 s.lot, .int .i64 s.band, .int .i64 s.limit] 2) = W2 := hW2
  rw [hW2'] 
  rw [hW2] at HW HSW HRW HszW HoW
  clear hW2 hW2' hszW d0 d1 d2 d3 d4 d5 HS1 HB1 HM HS
  generalize w1.heap.size = B2 at *
  have Hl6 := Lib.hid (s.formA_le)
  have Hl16 := Lib.hid (s.formB_le Hok.out)
  go_loopw [0, 29] (fun b i wr => ∃ (k : Nat) (p : Option Addr) (m c : Nat), k ≤ 6 ∧ i = .int .i64 (k : Int) ∧ b = .slice p m c ∧ m = (l ++ s.formA k).length ∧ OB wr base 5 (.slice p m c) (l ++ s.formA k) ∧ W2.grownBy wr (Value.slice pv l.length cv).ownBlock ∧ Near W2 (.slice pv l.length cv) (.slice p m c)) (fun _ i _ => 6 - (intOf i).toNat)
  case atStart => exact ⟨0, pv, _, cv, by decide, rfl, rfl, by simp [Sp.formA], by have := HoW.out; simpa [Sp.formA] using this, World.grownBy.refl _ _, Near.refl _ _⟩
  case round =>
    obtain ⟨k, p, m, c, hk, rfl, rfl, hmm, hob, hg, hn⟩ := hrel
    have HV := Lib.hid hob
    have HG := Lib.hid hg
    have HN := Lib.hid hn
    have Hmm := Lib.hid hmm
    have hbw : base ≤ wr.heap.size := by have := hg.size; have := HW.out.size; omega
    clear hob hg hn hmm
    by_cases hlt : k < 6
    · have hck : wr.cell? ⟨B2, k, none⟩ = some (.int .i64 (s.hd k)) := by
        rw [World.cell?_of_block (a := ⟨B2, k, none⟩) (HG.out.block B2 (by rw [HszW.out]; omega) (fun e => by have := Hvl.out B2 e.symm; omega)), cell_of_row _ _ _ _ _ _ HRW.out]
        exact s.hd_at k hlt
      have hw := Form.u64_wrap (s.hd k)
      have Hsu := Lib.hid (s.formA_succ k)
      have hlen := Hl6.out k
      have Hlt := Lib.hid (Form.u64_lt (s.hd k))
      generalize Form.u64 (s.hd k) = u at *
      generalize s.hd k = x at *
      go_wp2_with (
        go_at_call 25
        with_reducible refine (nat2_w base _ (l ++ s.formA k) u _ HV.out Hlt.out (by rw [List.length_append]; omega) hbw).mono ?_
        rintro r w3 ⟨p1, k1, c1, rfl, hk1, ho1, hg1, hn1⟩
        have Hk1 := Lib.hid hk1
        have Ho1 := Lib.hid ho1
        have Hg1 := Lib.hid (grown_near HG.out hg1 HN.out)
        have Hn1 := Lib.hid (HN.out.trans hn1 HG.out.size)
        clear hk1 ho1 hg1 hn1)
      go_roundw
      case rel => exact ⟨k + 1, p1, k1, c1, by omega, by go_num, rfl, by rw [Hsu.out, ← List.append_assoc]; exact Hk1.out, by rw [Hsu.out, ← List.append_assoc]; exact Ho1.out, Hg1.out, Hn1.out⟩
      case measure => simp [intOf]; omega
    · have hk6 : k = 6 := by omega
      subst hk6
      have HS3 := Lib.hid (show SpAt wr w.heap.size s by
        unfold SpAt
        rw [HG.out.block w.heap.size (by rw [HszW.out]; omega) (fun e => by have := Hvl.out _ e.symm; omega)]; exact HSW.out)
      have HR3 := Lib.hid HS3.out.range
      go_wp2_with (refine wpList_load_mid rfl 25 (.tmp 38) rfl _ _ rfl s.row.toList _ HR3.out Try.underlying25 rfl (show _ = some 16 by kernel_rfl) ?_; rw [Array.toArray_toList])
      go_loopw [0, 40] (fun b i wr => ∃ (k : Nat) (p : Option Addr) (m c : Nat), k ≤ 16 ∧ i = .int .i64 (k : Int) ∧ b = .slice p m c ∧ m = (l ++ s.formA 6 ++ s.formB k).length ∧ OB wr base 5 (.slice p m c) (l ++ s.formA 6 ++ s.formB k) ∧ W2.grownBy wr (Value.slice pv l.length cv).ownBlock ∧ Near W2 (.slice pv l.length cv) (.slice p m c)) (fun _ i _ => 16 - (intOf i).toNat)
      case atStart => exact ⟨0, p, m, c, by decide, rfl, rfl, by rw [Hmm.out]; simp [Sp.formB], by have := HV.out; simpa [Sp.formB] using this, HG.out, HN.out⟩
      case round =>
        obtain ⟨k, p, m, c, hk, rfl, rfl, hmm, hob, hg, hn⟩ := hrel
        have HV := Lib.hid hob
        have HG := Lib.hid hg
        have HN := Lib.hid hn
        have Hmm := Lib.hid hmm
        have hbw : base ≤ wr.heap.size := by have := hg.size; have := HW.out.size; omega
        clear hob hg hn hmm HR3 HS3
        by_cases hlt : k < 16
        · have hidx := run_index_row s k hlt
          obtain ⟨hx1, hx2⟩ := Hok.out.sh k
          have Hsu := Lib.hid (s.formB_succ k)
          have hlen := Hl16.out k
          have hlen6 := Hl6.out 6
          generalize s.sh k = x at *
          go_wp2_with (
            go_at_call 28
            with_reducible refine (int2_w base _ (l ++ s.formA 6 ++ s.formB k) x _ HV.out hx1 hx2 (by rw [List.length_append, List.length_append]; omega) hbw).mono ?_
            rintro r w3 ⟨p1, k1, c1, rfl, hk1, ho1, hg1, hn1⟩
            have Hk1 := Lib.hid hk1
            have Ho1 := Lib.hid ho1
            have Hg1 := Lib.hid (grown_near HG.out hg1 HN.out)
            have Hn1 := Lib.hid (HN.out.trans hn1 HG.out.size)
            clear hk1 ho1 hg1 hn1)
          go_roundw
          case rel => exact ⟨k + 1, p1, k1, c1, by omega, by go_num, rfl, by rw [Hsu.out, ← List.append_assoc]; exact Hk1.out, by rw [Hsu.out, ← List.append_assoc]; exact Ho1.out, Hg1.out, Hn1.out⟩
          case measure => simp [intOf]; omega
        · have hk16 : k = 16 := by omega
          subst hk16
          have HS3 := Lib.hid (show SpAt wr w.heap.size s by
            unfold SpAt
            rw [HG.out.block w.heap.size (by rw [HszW.out]; omega) (fun e => by have := Hvl.out _ e.symm; omega)]; exact HSW.out)
          go_wp2
          have d22 := (HS3.out.at 22).trans (show s.cells[22]? = some (.int .i64 s.credit) from rfl)
          have d23 := (HS3.out.at 23).trans (show s.cells[23]? = some (.int .u32 s.last) from rfl)
          have d24 := (HS3.out.at 24).trans (show s.cells[24]? = some (.int .i64 s.first) from rfl)
          have hw1 := Form.u64_wrap s.credit
          have hw3 := Form.u64_wrap s.first
          have hc2 : (Form.u64 s.last : Int) = s.last := by unfold Form.u64; omega
          rw [← hc2] at d23
          have Hc23 := Lib.hid (show s.cells[23]? = some (.int .u32 ((Form.u64 s.last : Nat) : Int)) by rw [hc2]; rfl)
          have hc2b : (Form.u64 s.last : Int) ≤ 4294967295 := by omega
          have hlen6 := Hl6.out 6
          have hlen16 := Hl16.out 16
          have u1 := Form.u64_lt s.credit
          have u2 := Form.u64_lt s.last
          have u3 := Form.u64_lt s.first
          have U1 := Lib.hid u1
          have U2 := Lib.hid u2
          have U3 := Lib.hid u3
          have n1 := Form.nat_len10 u1
          have n2 := Form.nat_len10 u2
          clear u1 u2 u3
          have hfm : l ++ s.formA 6 ++ s.formB 16 ++ Form.nat (Form.u64 s.credit) ++ Form.nat (Form.u64 s.last) ++ Form.nat (Form.u64 s.first) = l ++ s.form := by unfold Sp.form; simp only [List.append_assoc]
          have Hfm := Lib.hid hfm
          clear hfm
          clear hc2
          generalize Form.u64 s.credit = c1 at *
          generalize Form.u64 s.last = c2 at *
          generalize Form.u64 s.first = c3 at *
          have HLl := Lib.hid (show (l ++ s.formA 6 ++ s.formB 16).length ≤ 200000 by rw [List.length_append, List.length_append]; omega)
          generalize hF : l ++ s.formA 6 ++ s.formB 16 = F at *
          clear hF
          have HSP := Lib.hid (fun (W : World) (hg : W2.grownBy W (Value.slice pv l.length cv).ownBlock) => (show SpAt W w.heap.size s by
            unfold SpAt
            rw [hg.block w.heap.size (by rw [HszW.out]; omega) (fun e => by have := Hvl.out _ e.symm; omega)]; exact HSW.out))
          have hWb : base ≤ W2.heap.size := by have := HW.out.size; omega
          have HGd := Lib.hid (show W2.grownBy wr.drew (Value.slice pv l.length cv).ownBlock from ⟨HG.out.os, HG.out.tape, HG.out.output, HG.out.size, HG.out.block⟩)
          have HVd := Lib.hid (HV.out.keeps (Keeps.refl wr).drew)
          have hbwd : base ≤ wr.drew.heap.size := hbw
          have hb3 : ∀ W, W2.grownBy W (Value.slice pv l.length cv).ownBlock → base ≤ W.heap.size := fun W h => Nat.le_trans hWb h.size
          have Hb3 := Lib.hid hb3
          clear hb3
          have hwc2 : IntKind.u64.wrap (c2 : Int) = (c2 : Int) := IntWalk.u64_in _ (by omega)
          have hL1 : F.length ≤ 1000000 := by have := HLl.out; omega
          have hL2 : (F ++ Form.nat c1).length ≤ 1000000 := by have := HLl.out; simp only [List.length_append]; omega
          have hL3 : (F ++ Form.nat c1 ++ Form.nat c2).length ≤ 1000000 := by have := HLl.out; simp only [List.length_append]; omega
          go_region_held3 (fun w' => w'.cell? ⟨w.heap.size, 22, none⟩ = some (.int .i64 s.credit) ∧ w'.cell? ⟨w.heap.size, 23, none⟩ = some (.int .u32 (c2 : Int)) ∧ w'.cell? ⟨w.heap.size, 24, none⟩ = some (.int .i64 s.first)) (go_keep) ((
            go_at_call 25
            first
              | (with_reducible refine (nat2_w base _ F c1 _ HVd.out U1.out hL1 hbwd).mono ?_
                 rintro r w3 ⟨p1, k1, x1, rfl, hk1, ho1, hg1, hn1⟩
                 have Kk1 := Lib.hid hk1
                 have O1 := Lib.hid ho1
                 have G1 := Lib.hid (grown_near HGd.out hg1 HN.out)
                 have N1 := Lib.hid (Near.trans HN.out hn1 (World.grownBy.size HGd.out))
                 have e22 := ((HSP.out _ G1.out).at 22).trans (show s.cells[22]? = some (.int .i64 s.credit) from rfl)
                 have e23 := ((HSP.out _ G1.out).at 23).trans Hc23.out
                 have e24 := ((HSP.out _ G1.out).at 24).trans (show s.cells[24]? = some (.int .i64 s.first) from rfl)
                 clear hk1 ho1 hg1 hn1)
              | (with_reducible refine (nat2_w base _ (F ++ Form.nat c1) c2 _ O1.out U2.out hL2 (Hb3.out _ G1.out)).mono ?_
                 rintro r w4 ⟨p2, k2, x2, rfl, hk1, ho1, hg1, hn1⟩
                 have Kk2 := Lib.hid hk1
                 have O2 := Lib.hid ho1
                 have G2 := Lib.hid (grown_near G1.out hg1 N1.out)
                 have N2 := Lib.hid (Near.trans N1.out hn1 (World.grownBy.size G1.out))
                 have e22 := ((HSP.out _ G2.out).at 22).trans (show s.cells[22]? = some (.int .i64 s.credit) from rfl)
                 have e23 := ((HSP.out _ G2.out).at 23).trans Hc23.out
                 have e24 := ((HSP.out _ G2.out).at 24).trans (show s.cells[24]? = some (.int .i64 s.first) from rfl)
                 clear hk1 ho1 hg1 hn1)
              | (with_reducible refine (nat2_w base _ (F ++ Form.nat c1 ++ Form.nat c2) c3 _ O2.out U3.out hL3 (Hb3.out _ G2.out)).mono ?_
                 rintro r w5 ⟨p3, k3, x3, rfl, hk1, ho1, hg1, hn1⟩
                 have Kk3 := Lib.hid hk1
                 have O3 := Lib.hid ho1
                 have G3 := Lib.hid (grown_near G2.out hg1 N2.out)
                 have N3 := Lib.hid (Near.trans N2.out hn1 (World.grownBy.size G2.out))
                 have e22 := ((HSP.out _ G3.out).at 22).trans (show s.cells[22]? = some (.int .i64 s.credit) from rfl)
                 have e23 := ((HSP.out _ G3.out).at 23).trans Hc23.out
                 have e24 := ((HSP.out _ G3.out).at 24).trans (show s.cells[24]? = some (.int .i64 s.first) from rfl)
                 clear hk1 ho1 hg1 hn1)))
          go_wp2
          go_ret
          rw [← Hfm.out]
          exact ⟨p3, k3, x3, rfl, Kk3.out, O3.out, grown_old HW.out G3.out, near_old HW.out N3.out⟩

end Go.Proofs.Ytoflehlkacofjaa
