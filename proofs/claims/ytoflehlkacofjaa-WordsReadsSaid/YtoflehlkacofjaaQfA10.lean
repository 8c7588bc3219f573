/- A reply: whether it may be, what it is written as, whether two are alike. -/
import Derived.Test.YtoflehlkacofjaaQfA9
namespace Go.Proofs.Ytoflehlkacofjaa
open Go.ChangeShapes Go.WideShapes Go.ChangeAt Go.RowKit
set_option linter.unusedVariables false
/-- A reply. -/
structure Rp where
  errno : Int
  number : Nat
  filled : Int
  left : Int
  trades : List Tr
  gone : List Nat
  accounts : List Nat
structure Rp.ok (x : Rp) : Prop where
  errno : Sp.i64 x.errno
  number : x.number < 2 ^ 64
  filled : Sp.i64 x.filled
  left : Sp.i64 x.left
  trades : ∀ t ∈ x.trades, t.ok
  gone : ∀ n ∈ x.gone, n < 2 ^ 64
  accounts : ∀ n ∈ x.accounts, n < 2 ^ 32
  lt : x.trades.length ≤ 140737488351232
  lg : x.gone.length ≤ 140737488351232
  la : x.accounts.length ≤ 140737488351232
/-- Its cells. -/
def rpc (x : Rp) (tv gv av : Value) : Array Value := #[.int .i64 x.errno, .int .u64 (x.number : Int), .int .i64 x.filled, .int .i64 x.left, tv, gv, av]
/-- Its data lie in memory. -/
structure RpA (w : World) (tv gv av : Value) (x : Rp) : Prop where
  t : RdT w tv x.trades
  g : RdN w gv .u64 x.gone
  a : RdN w av .u32 x.accounts
  ok : x.ok
theorem RpA.keeps {w w' : World} {tv gv av : Value} {x : Rp} (h : RpA w tv gv av x) (hk : Keeps w w') : RpA w' tv gv av x := ⟨RdC.keeps h.t hk, RdC.keeps h.g hk, RdC.keeps h.a hk, h.ok⟩
theorem RpA.forms {w : World} {tv gv av : Value} {x : Rp} (h : RpA w tv gv av x) : (∃ p c, tv = .slice p x.trades.length c) ∧ (∃ p c, gv = .slice p x.gone.length c) ∧ ∃ p c, av = .slice p x.accounts.length c := by
  obtain ⟨⟨p1, c1, e1, _⟩, ⟨p2, c2, e2, _⟩, ⟨p3, c3, e3, _⟩, _⟩ := h
  exact ⟨⟨p1, c1, e1⟩, ⟨p2, c2, e2⟩, ⟨p3, c3, e3⟩⟩
/-- Nothing but an error. -/
def emptyB (nu : Nat) (fi le : Int) (n : Nat) : Bool := decide (nu = 0) && (decide (fi = 0) && (decide (le = 0) && decide (n = 0)))
def mayRB (en : Int) (em : Bool) (nt ng na : Nat) : Bool := decide (0 ≤ en) && (decide (en ≤ 999) && ((decide (en = 0) || em) && (decide (nt ≤ 4000) && (decide (ng ≤ 4000) && decide (na ≤ 4000)))))
def Rp.mayB (x : Rp) : Bool := mayRB x.errno (emptyB x.number x.filled x.left (x.trades.length + x.gone.length + x.accounts.length)) x.trades.length x.gone.length x.accounts.length
def Rp.form (x : Rp) : List UInt8 := if x.errno = 0 then (((Form.nat 0 ++ Form.nat x.number) ++ (Form.nat (Form.fold x.filled) ++ Form.nat (Form.fold x.left))) ++ natsT x.trades ++ natsN x.gone) ++ natsN x.accounts else Form.nat x.errno.toNat
theorem lt_of_at' {w : World} {B : Nat} {o : Obj} (h : w.heap[B]? = some o) : B < w.heap.size := (Array.getElem?_eq_some_iff.1 h).1
set_option maxRecDepth 100000 in
set_option maxHeartbeats 1600000 in
theorem empty_w (en : Int) (nu : Nat) (fi le : Int) (pt pg pa : Option Addr) (nt ng na ct cg ca : Nat) (w : World) (ht : nt ≤ 140737488351232) (hg : ng ≤ 140737488351232) (ha : na ≤ 140737488351232) : Calls Try.prog 40 #[.agg #[.int .i64 en, .int .u64 (nu : Int), .int .i64 fi, .int .i64 le, .slice pt nt ct, .slice pg ng cg, .slice pa na ca]] w fun e w' => e = .returned (.bool (emptyB nu fi le (nt + ng + na))) ∧ Below w.heap.size w w' := by
  have HB := Lib.hid ((Below.refl w.heap.size w).alloc (Nat.le_refl _) (.cells #[.int .i64 en, .int .u64 (nu : Int), .int .i64 fi, .int .i64 le, .slice pt nt ct, .slice pg ng cg, .slice pa na ca] 36))
  obtain ⟨R, hR⟩ : ∃ R, emptyB nu fi le (nt + ng + na) = R := ⟨_, rfl⟩
  rw [hR]
  have HR := Lib.hid hR
  clear hR
  by_cases h0 : nu = 0
  · have d0 : ((nu : Int) == 0) = true := by simp; omega
    have D0 := Lib.hid (decide_eq_true h0)
    clear h0
    by_cases h1 : fi = 0
    · have d1 : (fi == 0) = true := by simp; omega
      have D1 := Lib.hid (decide_eq_true h1)
      clear h1
      by_cases h2 : le = 0
      · have d2 : (le == 0) = true := by simp; omega
        have D2 := Lib.hid (decide_eq_true h2)
        clear h2
        by_cases h3 : nt + ng + na = 0
        · have d3 : ((nt : Int) + (ng : Int) + (na : Int) == 0) = true := by simp; omega
          have w1 : IntKind.i64.wrap ((nt : Int) + (ng : Int)) = (nt : Int) + (ng : Int) := IntWalk.i64_in _ (by omega)
          have w2 : IntKind.i64.wrap ((nt : Int) + (ng : Int) + (na : Int)) = (nt : Int) + (ng : Int) + (na : Int) := IntWalk.i64_in _ (by omega)
          have D3 := Lib.hid (decide_eq_true h3)
          clear h3
          go_enter Try.func40, Try.ntmps40
          go_wp2
          go_ret
          exact ⟨by (rw [← HR.out]; unfold emptyB; rw [D0.out, D1.out, D2.out, D3.out]; rfl), HB.out⟩
        · have d3 : ((nt : Int) + (ng : Int) + (na : Int) == 0) = false := by simp; omega
          have w1 : IntKind.i64.wrap ((nt : Int) + (ng : Int)) = (nt : Int) + (ng : Int) := IntWalk.i64_in _ (by omega)
          have w2 : IntKind.i64.wrap ((nt : Int) + (ng : Int) + (na : Int)) = (nt : Int) + (ng : Int) + (na : Int) := IntWalk.i64_in _ (by omega)
          have D3 := Lib.hid (decide_eq_false h3)
          clear h3
          go_enter Try.func40, Try.ntmps40
          go_wp2
          go_ret
          exact ⟨by (rw [← HR.out]; unfold emptyB; rw [D0.out, D1.out, D2.out, D3.out]; rfl), HB.out⟩
      · have d2 : (le == 0) = false := by simp; omega
        have D2 := Lib.hid (decide_eq_false h2)
        clear h2
        go_enter Try.func40, Try.ntmps40
        go_wp2
        go_ret
        exact ⟨by (rw [← HR.out]; unfold emptyB; rw [D0.out, D1.out, D2.out]; rfl), HB.out⟩
    · have d1 : (fi == 0) = false := by simp; omega
      have D1 := Lib.hid (decide_eq_false h1)
      clear h1
      go_enter Try.func40, Try.ntmps40
      go_wp2
      go_ret
      exact ⟨by (rw [← HR.out]; unfold emptyB; rw [D0.out, D1.out]; rfl), HB.out⟩
  · have d0 : ((nu : Int) == 0) = false := by simp; omega
    have D0 := Lib.hid (decide_eq_false h0)
    clear h0
    go_enter Try.func40, Try.ntmps40
    go_wp2
    go_ret
    exact ⟨by (rw [← HR.out]; unfold emptyB; rw [D0.out]; rfl), HB.out⟩
set_option maxRecDepth 100000 in
set_option maxHeartbeats 3200000 in
theorem mayR_w (en : Int) (nu : Nat) (fi le : Int) (pt pg pa : Option Addr) (nt ng na ct cg ca : Nat) (w : World) (ht : nt ≤ 140737488351232) (hg : ng ≤ 140737488351232) (ha : na ≤ 140737488351232) (em : Bool) (HE : ∀ W, Calls Try.prog 40 #[.agg #[.int .i64 en, .int .u64 (nu : Int), .int .i64 fi, .int .i64 le, .slice pt nt ct, .slice pg ng cg, .slice pa na ca]] W fun e w' => e = .returned (.bool em) ∧ Below W.heap.size W w') :
    Calls Try.prog 14 #[.agg #[.int .i64 en, .int .u64 (nu : Int), .int .i64 fi, .int .i64 le, .slice pt nt ct, .slice pg ng cg, .slice pa na ca]] w fun e w' => e = .returned (.bool (mayRB en em nt ng na)) ∧ Below w.heap.size w w' := by
  have HB := Lib.hid ((Below.refl w.heap.size w).alloc (Nat.le_refl _) (.cells #[.int .i64 en, .int .u64 (nu : Int), .int .i64 fi, .int .i64 le, .slice pt nt ct, .slice pg ng cg, .slice pa na ca] 36))
  have HX := Lib.hid (heap_alloc_new w (.cells #[.int .i64 en, .int .u64 (nu : Int), .int .i64 fi, .int .i64 le, .slice pt nt ct, .slice pg ng cg, .slice pa na ca] 36))
  have HEm := Lib.hid HE
  clear HE
  obtain ⟨R, hR⟩ : ∃ R, mayRB en em nt ng na = R := ⟨_, rfl⟩
  rw [hR]
  have HR := Lib.hid hR
  clear hR
  by_cases g0 : 0 ≤ en
  · have d0 : decide (en < 0) = false := by simp; omega
    have D0 := Lib.hid (decide_eq_true g0)
    by_cases g1 : en ≤ 999
    · have d1 : decide (999 < en) = false := by simp; omega
      have D1 := Lib.hid (decide_eq_true g1)
      by_cases g2 : en = 0
      · have d2 : (en != 0) = false := by simp [g2]
        have D2 := Lib.hid (decide_eq_true g2)
        clear g2
        by_cases l1 : nt ≤ 4000
        · have el1 : decide ((nt : Int) ≤ 4000) = true := by simp; omega
          have Dl1 := Lib.hid (decide_eq_true l1)
          by_cases l2 : ng ≤ 4000
          · have el2 : decide ((ng : Int) ≤ 4000) = true := by simp; omega
            have Dl2 := Lib.hid (decide_eq_true l2)
            by_cases l3 : na ≤ 4000
            · have el3 : decide ((na : Int) ≤ 4000) = true := by simp; omega
              have Dl3 := Lib.hid (decide_eq_true l3)
              go_enter Try.func14, Try.ntmps14
              go_wp2
              go_ret
              exact ⟨by (rw [← HR.out]; unfold mayRB; rw [D0.out, D1.out, D2.out, Dl1.out, Dl2.out, Dl3.out]; rfl), HB.out⟩
            · have el3 : decide ((na : Int) ≤ 4000) = false := by simp; omega
              have Dl3 := Lib.hid (decide_eq_false l3)
              go_enter Try.func14, Try.ntmps14
              go_wp2
              go_ret
              exact ⟨by (rw [← HR.out]; unfold mayRB; rw [D0.out, D1.out, D2.out, Dl1.out, Dl2.out, Dl3.out]; rfl), HB.out⟩
          · have el2 : decide ((ng : Int) ≤ 4000) = false := by simp; omega
            have Dl2 := Lib.hid (decide_eq_false l2)
            go_enter Try.func14, Try.ntmps14
            go_wp2
            go_ret
            exact ⟨by (rw [← HR.out]; unfold mayRB; rw [D0.out, D1.out, D2.out, Dl1.out, Dl2.out]; rfl), HB.out⟩
        · have el1 : decide ((nt : Int) ≤ 4000) = false := by simp; omega
          have Dl1 := Lib.hid (decide_eq_false l1)
          go_enter Try.func14, Try.ntmps14
          go_wp2
          go_ret
          exact ⟨by (rw [← HR.out]; unfold mayRB; rw [D0.out, D1.out, D2.out, Dl1.out]; rfl), HB.out⟩
      · have d2 : (en != 0) = true := by simp [g2]
        have D2 := Lib.hid (decide_eq_false g2)
        cases em with
        | true =>
          by_cases l1 : nt ≤ 4000
          · have el1 : decide ((nt : Int) ≤ 4000) = true := by simp; omega
            have Dl1 := Lib.hid (decide_eq_true l1)
            by_cases l2 : ng ≤ 4000
            · have el2 : decide ((ng : Int) ≤ 4000) = true := by simp; omega
              have Dl2 := Lib.hid (decide_eq_true l2)
              by_cases l3 : na ≤ 4000
              · have el3 : decide ((na : Int) ≤ 4000) = true := by simp; omega
                have Dl3 := Lib.hid (decide_eq_true l3)
                go_enter Try.func14, Try.ntmps14
                go_wp2_with ((go_at_call 40; (with_reducible refine (HEm.out _).mono ?_); rintro e w1 ⟨rfl, hB⟩; have HB1 := Lib.hid (HB.out.trans (hB.mono HB.out.size)); have c4 := (hB.cell (p := ⟨w.heap.size, 4, none⟩) (lt_of_at' HX.out)).trans ((cell_of_row _ _ _ _ _ _ HX.out).trans (show _ = some (Value.slice pt nt ct) from rfl)); have c5 := (hB.cell (p := ⟨w.heap.size, 5, none⟩) (lt_of_at' HX.out)).trans ((cell_of_row _ _ _ _ _ _ HX.out).trans (show _ = some (Value.slice pg ng cg) from rfl)); have c6 := (hB.cell (p := ⟨w.heap.size, 6, none⟩) (lt_of_at' HX.out)).trans ((cell_of_row _ _ _ _ _ _ HX.out).trans (show _ = some (Value.slice pa na ca) from rfl)); clear hB))
                go_ret
                exact ⟨by (rw [← HR.out]; unfold mayRB; rw [D0.out, D1.out, D2.out, Dl1.out, Dl2.out, Dl3.out]; rfl), HB1.out⟩
              · have el3 : decide ((na : Int) ≤ 4000) = false := by simp; omega
                have Dl3 := Lib.hid (decide_eq_false l3)
                go_enter Try.func14, Try.ntmps14
                go_wp2_with ((go_at_call 40; (with_reducible refine (HEm.out _).mono ?_); rintro e w1 ⟨rfl, hB⟩; have HB1 := Lib.hid (HB.out.trans (hB.mono HB.out.size)); have c4 := (hB.cell (p := ⟨w.heap.size, 4, none⟩) (lt_of_at' HX.out)).trans ((cell_of_row _ _ _ _ _ _ HX.out).trans (show _ = some (Value.slice pt nt ct) from rfl)); have c5 := (hB.cell (p := ⟨w.heap.size, 5, none⟩) (lt_of_at' HX.out)).trans ((cell_of_row _ _ _ _ _ _ HX.out).trans (show _ = some (Value.slice pg ng cg) from rfl)); have c6 := (hB.cell (p := ⟨w.heap.size, 6, none⟩) (lt_of_at' HX.out)).trans ((cell_of_row _ _ _ _ _ _ HX.out).trans (show _ = some (Value.slice pa na ca) from rfl)); clear hB))
                go_ret
                exact ⟨by (rw [← HR.out]; unfold mayRB; rw [D0.out, D1.out, D2.out, Dl1.out, Dl2.out, Dl3.out]; rfl), HB1.out⟩
            · have el2 : decide ((ng : Int) ≤ 4000) = false := by simp; omega
              have Dl2 := Lib.hid (decide_eq_false l2)
              go_enter Try.func14, Try.ntmps14
              go_wp2_with ((go_at_call 40; (with_reducible refine (HEm.out _).mono ?_); rintro e w1 ⟨rfl, hB⟩; have HB1 := Lib.hid (HB.out.trans (hB.mono HB.out.size)); have c4 := (hB.cell (p := ⟨w.heap.size, 4, none⟩) (lt_of_at' HX.out)).trans ((cell_of_row _ _ _ _ _ _ HX.out).trans (show _ = some (Value.slice pt nt ct) from rfl)); have c5 := (hB.cell (p := ⟨w.heap.size, 5, none⟩) (lt_of_at' HX.out)).trans ((cell_of_row _ _ _ _ _ _ HX.out).trans (show _ = some (Value.slice pg ng cg) from rfl)); have c6 := (hB.cell (p := ⟨w.heap.size, 6, none⟩) (lt_of_at' HX.out)).trans ((cell_of_row _ _ _ _ _ _ HX.out).trans (show _ = some (Value.slice pa na ca) from rfl)); clear hB))
              go_ret
              exact ⟨by (rw [← HR.out]; unfold mayRB; rw [D0.out, D1.out, D2.out, Dl1.out, Dl2.out]; rfl), HB1.out⟩
          · have el1 : decide ((nt : Int) ≤ 4000) = false := by simp; omega
            have Dl1 := Lib.hid (decide_eq_false l1)
            go_enter Try.func14, Try.ntmps14
            go_wp2_with ((go_at_call 40; (with_reducible refine (HEm.out _).mono ?_); rintro e w1 ⟨rfl, hB⟩; have HB1 := Lib.hid (HB.out.trans (hB.mono HB.out.size)); have c4 := (hB.cell (p := ⟨w.heap.size, 4, none⟩) (lt_of_at' HX.out)).trans ((cell_of_row _ _ _ _ _ _ HX.out).trans (show _ = some (Value.slice pt nt ct) from rfl)); have c5 := (hB.cell (p := ⟨w.heap.size, 5, none⟩) (lt_of_at' HX.out)).trans ((cell_of_row _ _ _ _ _ _ HX.out).trans (show _ = some (Value.slice pg ng cg) from rfl)); have c6 := (hB.cell (p := ⟨w.heap.size, 6, none⟩) (lt_of_at' HX.out)).trans ((cell_of_row _ _ _ _ _ _ HX.out).trans (show _ = some (Value.slice pa na ca) from rfl)); clear hB))
            go_ret
            exact ⟨by (rw [← HR.out]; unfold mayRB; rw [D0.out, D1.out, D2.out, Dl1.out]; rfl), HB1.out⟩
        | false =>
          go_enter Try.func14, Try.ntmps14
          go_wp2_with ((go_at_call 40; (with_reducible refine (HEm.out _).mono ?_); rintro e w1 ⟨rfl, hB⟩; have HB1 := Lib.hid (HB.out.trans (hB.mono HB.out.size)); have c4 := (hB.cell (p := ⟨w.heap.size, 4, none⟩) (lt_of_at' HX.out)).trans ((cell_of_row _ _ _ _ _ _ HX.out).trans (show _ = some (Value.slice pt nt ct) from rfl)); have c5 := (hB.cell (p := ⟨w.heap.size, 5, none⟩) (lt_of_at' HX.out)).trans ((cell_of_row _ _ _ _ _ _ HX.out).trans (show _ = some (Value.slice pg ng cg) from rfl)); have c6 := (hB.cell (p := ⟨w.heap.size, 6, none⟩) (lt_of_at' HX.out)).trans ((cell_of_row _ _ _ _ _ _ HX.out).trans (show _ = some (Value.slice pa na ca) from rfl)); clear hB))
          go_ret
          exact ⟨by (rw [← HR.out]; unfold mayRB; rw [D0.out, D1.out, D2.out]; rfl), HB1.out⟩
    · have d1 : decide (999 < en) = true := by simp; omega
      have D1 := Lib.hid (decide_eq_false g1)
      go_enter Try.func14, Try.ntmps14
      go_wp2
      go_ret
      exact ⟨by (rw [← HR.out]; unfold mayRB; rw [D0.out, D1.out]; rfl), HB.out⟩
  · have d0 : decide (en < 0) = true := by simp; omega
    have D0 := Lib.hid (decide_eq_false g0)
    go_enter Try.func14, Try.ntmps14
    go_wp2
    go_ret
    exact ⟨by (rw [← HR.out]; unfold mayRB; rw [D0.out]; rfl), HB.out⟩
theorem mayR14_w (x : Rp) (tv gv av : Value) (w : World) (h : RpA w tv gv av x) : Calls Try.prog 14 #[.agg (rpc x tv gv av)] w fun e w' => e = .returned (.bool x.mayB) ∧ Below w.heap.size w w' := by
  obtain ⟨⟨pt, ct, rfl⟩, ⟨pg, cg, rfl⟩, ⟨pa, ca, rfl⟩⟩ := h.forms
  exact mayR_w x.errno x.number x.filled x.left pt pg pa _ _ _ ct cg ca w h.ok.lt h.ok.lg h.ok.la _ (fun W => empty_w x.errno x.number x.filled x.left pt pg pa _ _ _ ct cg ca W h.ok.lt h.ok.lg h.ok.la)
end Go.Proofs.Ytoflehlkacofjaa
