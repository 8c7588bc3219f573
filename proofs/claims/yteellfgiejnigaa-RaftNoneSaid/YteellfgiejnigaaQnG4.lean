/- A step begins; it is alone; it follows. -/
import Derived.Test.YteellfgiejnigaaQnG3
import Derived.BigQuiet
import Derived.Deep.MidRow
import Derived.Deep.QuietTactic
namespace Go.Proofs.Yteellfgiejnigaa
open Go.ChangeShapes Go.WideShapes Go.ChangeAt Go.RowKit
set_option linter.unusedVariables false
section
variable {own : Own} {w : World} {i p q g t0 : Nat} {who0 : Int} {r : RS.Rf} {x : Ov} {o : RS.Ou} {M : Nat}
theorem drew_size (w : World) : w.drew.heap.size = w.heap.size := rfl
/-- What is new is the step's. -/
theorem Mv.alloc (own : Own) (w : World) (ob : Obj) (l : Nat) : Mv (fun _ => False) own w (ext own w.heap.size l) (w.alloc ob) := Mv.of_below ((Below.refl _ _).alloc (Nat.le_refl _) _) l
set_option maxRecDepth 100000 in
theorem begin_w (own : Own) (i p g : Nat) (r : RS.Rf) (w : World) (h : NdAt own w i p g r) :
    Calls Try.prog 107 #[.pointer (some ⟨p, 0, none⟩)] w fun e w' => e = .returned (.pointer (some ⟨w.heap.size, 0, none⟩)) ∧ ∃ own', StAt own' w' i p w.heap.size g r.term r.who r Ov.zero RS.Ou.none ∧ Mv (fun _ => False) own w own' w' := by
  have hc3 : w.cell? ⟨p, 3, none⟩ = some (.int .u64 (r.term : Int)) := h.c 3
  have hc4 : w.cell? ⟨p, 4, none⟩ = some (.int .i64 r.who) := h.c 4
  have H := Lib.hid h
  clear h
  go_enter Try.func107, Try.ntmps107
  go_wp2
  go_still_tail 10, (by kernel_rfl)
  change wpList _ _ _ _ _ w.drew
  have HD := Lib.hid H.out.drew
  have HM := Lib.hid (Mv.drew (fun _ => False) own w)
  have Hs := Lib.hid (drew_size w)
  clear H hc3 hc4
  generalize w.drew = w2 at *
  go_wp2
  go_ret
  rw [Hs.out]
  have hm := Mv.alloc own w2 (.cells (stc p Ov.zero r.term r.who) 176) 7
  refine ⟨rfl, _, ⟨HD.out.mv hm id, ?_, ?_, ?_⟩, HM.out.trans hm⟩
  · rw [← Hs.out]; exact heap_alloc_new _ _
  · rw [← Hs.out]; exact ext_ge (Nat.le_refl _)
  · exact ⟨rfl, .inl ⟨rfl, rfl⟩, .inl ⟨rfl, rfl⟩⟩
theorem NdAt.there (h : NdAt own w i p g r) {o n : Nat} (hn : o + n ≤ 34) : w.there p o n := by
  intro j hj
  refine ⟨?_, h.frozen _⟩
  rw [h.c]
  have hs : o + j < (rfc r g).size := by show o + j < 34; omega
  rw [Array.getElem?_eq_getElem hs]; rfl
theorem set7 (r : RS.Rf) (g : Nat) : setMany (rfc r g) 13 [.bool false, .bool false, .bool false, .bool false, .bool false, .bool false, .bool false] = rfc { r with sides := fun _ => false } g := by
  simp [setMany, rfc]
set_option maxRecDepth 100000 in
theorem alone_w (own : Own) (i p g : Nat) (r : RS.Rf) (w : World) (h : NdAt own w i p g r) (hid : r.id < 7) :
    Calls Try.prog 113 #[.pointer (some ⟨p, 0, none⟩)] w fun e w' => (∃ v, e = .returned v) ∧ NdAt own w' i p g r.alone ∧ Mv (fun l => l = i) own w own w' := by
  have k0 : w.cell? ⟨p, 13, none⟩ = some (.bool (r.sides 0)) := h.c 13
  have k1 : w.cell? ⟨p, 14, none⟩ = some (.bool (r.sides 1)) := h.c 14
  have k2 : w.cell? ⟨p, 15, none⟩ = some (.bool (r.sides 2)) := h.c 15
  have k3 : w.cell? ⟨p, 16, none⟩ = some (.bool (r.sides 3)) := h.c 16
  have k4 : w.cell? ⟨p, 17, none⟩ = some (.bool (r.sides 4)) := h.c 17
  have k5 : w.cell? ⟨p, 18, none⟩ = some (.bool (r.sides 5)) := h.c 18
  have k6 : w.cell? ⟨p, 19, none⟩ = some (.bool (r.sides 6)) := h.c 19
  have f0 : w.frozen? ⟨p, 13, none⟩ = false := h.frozen 13
  have f1 : w.frozen? ⟨p, 14, none⟩ = false := h.frozen 14
  have f2 : w.frozen? ⟨p, 15, none⟩ = false := h.frozen 15
  have f3 : w.frozen? ⟨p, 16, none⟩ = false := h.frozen 16
  have f4 : w.frozen? ⟨p, 17, none⟩ = false := h.frozen 17
  have f5 : w.frozen? ⟨p, 18, none⟩ = false := h.frozen 18
  have f6 : w.frozen? ⟨p, 19, none⟩ = false := h.frozen 19
  have HN := Lib.hid (h.sets 13 [.bool false, .bool false, .bool false, .bool false, .bool false, .bool false, .bool false] { r with sides := fun _ => false } (set7 r g) rfl rfl rfl)
  have HM := Lib.hid (Mv.sets (L := fun l => l = i) (own := own) (w := w) (b := p) h.op 13 [.bool false, .bool false, .bool false, .bool false, .bool false, .bool false, .bool false])
  have hi0 : (0 : Int) ≤ (r.id : Int) := by omega
  have hi1 : (r.id : Int) < 7 := by omega
  clear h
  go_enter Try.func113, Try.ntmps113
  go_wp2
  change Code.wp _ _ _ _ (w.setCells p 13 [.bool false, .bool false, .bool false, .bool false, .bool false, .bool false, .bool false])
  clear k0 k1 k2 k3 k4 k5 k6 f0 f1 f2 f3 f4 f5 f6
  generalize w.setCells p 13 [.bool false, .bool false, .bool false, .bool false, .bool false, .bool false, .bool false] = w1 at *
  have hc1 : w1.cell? ⟨p, 1, none⟩ = some (.int .i64 (r.id : Int)) := HN.out.c 1
  go_still_tail 9, (by kernel_rfl)
  change wpList _ _ _ _ _ w1.drew
  have HD := Lib.hid HN.out.drew
  have HM2 := Lib.hid (HM.out.trans (Mv.drew (fun l => l = i) own w1))
  have hf := HD.out.frozen (13 + r.id)
  have hcc : w1.drew.cell? ⟨p, 13 + r.id, none⟩ = some (.bool false) := by rw [HD.out.c, rfc_side _ _ hid]
  clear hc1 HN HM
  generalize w1.drew = w2 at *
  go_wp2
  go_end0
  have hs := set_side { r with sides := fun _ => false } g hid true
  refine ⟨⟨_, rfl⟩, HD.out.set (13 + r.id) _ r.alone ?_ rfl rfl rfl, HM2.out.trans (Mv.set HD.out.op _)⟩
  rw [hs]
  have e : ({ r with sides := fun i => if i = r.id then true else (fun _ => false) i } : RS.Rf) = r.alone := by
    unfold RS.Rf.alone
    congr 1
  exact congrArg (fun z => rfc z g) e
set_option maxRecDepth 100000 in
theorem follow_w (own : Own) (i p q g t0 : Nat) (who0 : Int) (r : RS.Rf) (x : Ov) (o : RS.Ou) (w : World) (h : StAt own w i p q g t0 who0 r x o) (hT : r.T ≤ 20) (d : Nat) (hd : d < 2 ^ 64) :
    Calls Try.prog 117 #[.pointer (some ⟨q, 0, none⟩), .int .u64 (d : Int)] w fun e w' => (∃ v, e = .returned v) ∧ StAt own w' i p q g t0 who0 (r.follow d) x o ∧ Mv (fun l => l = i) own w own w' := by
  have hq0 : w.cell? ⟨q, 0, none⟩ = some (.pointer (some ⟨p, 0, none⟩)) := h.c 0
  have hp7 : w.cell? ⟨p, 7, none⟩ = some (.int .u8 (r.role : Int)) := h.nd.c 7
  have hf := h.nd.frozen 7
  have hne := h.ne
  have H1 := Lib.hid (h.setp 7 (.int .u8 0) { r with role := 0 } rfl rfl rfl rfl)
  have HM := Lib.hid (Mv.set (L := fun l => l = i) (own := own) (w := w) (a := ⟨p, 7, none⟩) h.nd.op (.int .u8 0))
  clear h
  go_enter Try.func117, Try.ntmps117
  go_wp2_with (go_at_call 105; refine (draw_w own i p g _ _ H1.out.nd hT d hd).mono ?_; rintro e w1 ⟨⟨v, rfl⟩, hN, hM⟩; have HN := Lib.hid hN; have HM2 := Lib.hid hM; clear hN hM)
  go_end0
  exact ⟨⟨_, rfl⟩, H1.out.of_nd HN.out HM2.out, HM.out.trans HM2.out⟩
theorem same_drew (w : World) : RegT.Same w w.drew := ⟨rfl, rfl, rfl, rfl⟩
theorem countP_succ (f : Nat → Bool) (k : Nat) : (List.range (k + 1)).countP f = (List.range k).countP f + (if f k = true then 1 else 0) := by
  rw [List.range_succ, List.countP_append]
  by_cases h : f k = true <;> simp [h]
set_option maxRecDepth 100000 in
theorem most_w (own : Own) (i p g : Nat) (r : RS.Rf) (w : World) (h : NdAt own w i p g r) (hn : r.n ≤ 7) :
    Calls Try.prog 115 #[.pointer (some ⟨p, 0, none⟩)] w fun e w' => e = .returned (.bool r.most) ∧ RegT.Same w w' := by
  have hc0 : w.cell? ⟨p, 0, none⟩ = some (.int .i64 (r.n : Int)) := h.c 0
  have hn0 : (0 : Int) ≤ (r.n : Int) := by omega
  have hn7 : (r.n : Int) ≤ 7 := by omega
  have HS := Lib.hid (fun k (hk : k < 7) => (h.c (13 + k)).trans (rfc_side r g hk))
  have Hmost := Lib.hid (show r.most = decide (r.n < 2 * (List.range r.n).countP r.sides) from rfl)
  clear h
  go_enter Try.func115, Try.ntmps115
  go_wp2
  go_quiet (fail)
  have HR := Lib.hid (show RegT.Same w (w.drewN nq) from ⟨rfl, rfl, rfl, rfl⟩)
  have hc1 : (w.drewN nq).cell? ⟨p, 0, none⟩ = some (.int .i64 (r.n : Int)) := HR.out.cell hc0
  have HS1 := Lib.hid (fun k (hk : k < 7) => HR.out.cell (HS.out k hk))
  clear hc0 HS
  generalize w.drewN nq = w1 at *
  go_wp2
  go_loop [3, 16] (fun c k => ∃ (a b : Nat), b ≤ r.n ∧ Hid (a = (List.range b).countP r.sides) ∧ a ≤ b ∧ c = .int .i64 (a : Int) ∧ k = .int .i64 (b : Int)) (fun _ k => r.n - (intOf k).toNat)
  case atStart => exact ⟨0, 0, Nat.zero_le _, Lib.hid rfl, Nat.le_refl _, rfl, rfl⟩
  case round =>
    obtain ⟨a, b, hb, Ha, hab, rfl, rfl⟩ := hrel
    by_cases hlt : b < r.n
    · have hcell := HS1.out b (by omega)
      have Hs := Lib.hid (countP_succ r.sides b)
      have hb0 : (0 : Int) ≤ (b : Int) := by omega
      have hb1 : (b : Int) < (r.n : Int) := by omega
      cases hsd : r.sides b with
      | true =>
        rw [hsd] at hcell
        have Hsd := Lib.hid hsd
        clear hsd
        go_wp2
        go_round
        case rel => exact ⟨a + 1, b + 1, by omega, Lib.hid (by rw [Hs.out, Ha.out, Hsd.out]; rfl), by omega, by go_num, by go_num⟩
        case measure => simp [intOf]; omega
      | false =>
        rw [hsd] at hcell
        have Hsd := Lib.hid hsd
        clear hsd
        go_wp2
        go_round
        case rel => exact ⟨a, b + 1, by omega, Lib.hid (by rw [Hs.out, Ha.out, Hsd.out]; rfl), by omega, by go_num, by go_num⟩
        case measure => simp [intOf]; omega
    · have hbn : b = r.n := by omega
      subst hbn
      go_wp2
      go_ret
      refine ⟨?_, HR.out⟩
      rw [Hmost.out, ← Ha.out]
      simp
      omega
end
end Go.Proofs.Yteellfgiejnigaa
