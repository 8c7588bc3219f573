/- The walk of the law NotesCut. -/
import Derived.Test.YteellfgiejnigaaU8
namespace Go.Proofs.Yteellfgiejnigaa
open Go.ChangeShapes Go.WideShapes Go.ChangeAt Go.RowKit
set_option linter.unusedVariables false

theorem RdB.first {w : World} {p : Option Addr} {n c : Nat} {l : List UInt8} (h : RdB w (.slice p n c) l) (j : Nat) (hj : j ≤ l.length) : RdB w (.slice p j c) (l.take j) := by
  obtain ⟨p', c', e, hp⟩ := h
  cases e
  exact ⟨p, c, by rw [List.length_take, Nat.min_eq_left hj], hp.take j⟩
set_option maxRecDepth 100000 in
set_option maxHeartbeats 3200000 in
theorem ncutA_w (w : World) (cx : Array Value) (cut : Int) (m : Int) (hs : cx.size = 9) (hL : ∀ W, Keeps w W → Calls Try.prog 16 #[.agg cx] W fun r w' => r = .returned (.bool true) ∧ Below W.heap.size W w') :
    Calls Try.prog 9 #[.agg cx, .int .i64 cut, .int .u8 m] w fun r w' => r = .returned (.bool true) ∧ Below w.heap.size w w' := by
  have hn3 : Below w.heap.size w (w.alloc (.cells cx 31)) := (Below.refl w.heap.size w).alloc (Nat.le_refl _) (.cells cx 31)
  have hn4 : Keeps w (w.alloc (.cells cx 31)) := hn3.block
  have HC := Lib.hid (And.intro (NcAt.new w cx) (And.intro hn4 hn3))
  have HL := Lib.hid hL
  clear hn3 hn4 hL
  go_enter Try.func9, Try.ntmps9
  go_wp2_with (first
    | (refine wpList_load_nc rfl (.tmp 3) rfl rfl HC.out.1 hs ?_)
    | (go_at_call 16; (with_reducible refine (HL.out _ HC.out.2.1).mono ?_); rintro r w1 ⟨rfl, hB⟩; have HC := Lib.hid (And.intro (HC.out.1.keeps hB.block) (And.intro (HC.out.2.1.trans hB.block) (HC.out.2.2.trans (hB.mono HC.out.2.2.size)))); clear hB)
    | (go_at_call 17; (with_reducible refine (known23_w _).mono ?_); rintro r w1 ⟨rfl, hB⟩; have HC := Lib.hid (And.intro (HC.out.1.keeps hB.block) (And.intro (HC.out.2.1.trans hB.block) (HC.out.2.2.trans (hB.mono HC.out.2.2.size)))); clear hB))
  go_ret
  exact ⟨rfl, HC.out.2.2⟩
set_option maxRecDepth 100000 in
set_option maxHeartbeats 3200000 in
theorem ncutC_w (w : World) (cx : Array Value) (cut : Int) (m : Int) (hs : cx.size = 9) (hL : ∀ W, Keeps w W → Calls Try.prog 16 #[.agg cx] W fun r w' => r = .returned (.bool false) ∧ Below W.heap.size W w')
    (hB : ∀ W, Keeps w W → Calls Try.prog 18 #[.agg cx] W fun r w' => r = .returned (.tuple #[.slice none 0 0, .int .i64 2]) ∧ Below W.heap.size W w') :
    Calls Try.prog 9 #[.agg cx, .int .i64 cut, .int .u8 m] w fun r w' => r = .returned (.bool true) ∧ Below w.heap.size w w' := by
  have hn3 : Below w.heap.size w (w.alloc (.cells cx 31)) := (Below.refl w.heap.size w).alloc (Nat.le_refl _) (.cells cx 31)
  have hn4 : Keeps w (w.alloc (.cells cx 31)) := hn3.block
  have HC := Lib.hid (And.intro (NcAt.new w cx) (And.intro hn4 hn3))
  have HL := Lib.hid hL
  have HBy := Lib.hid hB
  clear hn3 hn4 hL hB
  go_enter Try.func9, Try.ntmps9
  go_wp2_with (first
    | (refine wpList_load_nc rfl (.tmp 3) rfl rfl HC.out.1 hs ?_)
    | (go_at_call 16; (with_reducible refine (HL.out _ HC.out.2.1).mono ?_); rintro r w1 ⟨rfl, hB⟩; have HC := Lib.hid (And.intro (HC.out.1.keeps hB.block) (And.intro (HC.out.2.1.trans hB.block) (HC.out.2.2.trans (hB.mono HC.out.2.2.size)))); clear hB)
    | (go_at_call 18; (with_reducible refine (HBy.out _ HC.out.2.1).mono ?_); rintro r w1 ⟨rfl, hB⟩; have HC := Lib.hid (And.intro (HC.out.1.keeps hB.block) (And.intro (HC.out.2.1.trans hB.block) (HC.out.2.2.trans (hB.mono HC.out.2.2.size)))); clear hB)
    | (go_at_call 17; (with_reducible refine (known23_w _).mono ?_); rintro r w1 ⟨rfl, hB⟩; have HC := Lib.hid (And.intro (HC.out.1.keeps hB.block) (And.intro (HC.out.2.1.trans hB.block) (HC.out.2.2.trans (hB.mono HC.out.2.2.size)))); clear hB))
  go_ret
  exact ⟨rfl, HC.out.2.2⟩
set_option maxRecDepth 100000 in
set_option maxHeartbeats 6400000 in
theorem ncutE_w (w : World) (cx : Array Value) (cut : Int) (mb : UInt8) (F : List UInt8) (hs : cx.size = 9) (hL : ∀ W, Keeps w W → Calls Try.prog 16 #[.agg cx] W fun r w' => r = .returned (.bool false) ∧ Below W.heap.size W w')
    (hB : ∀ W, Keeps w W → Calls Try.prog 18 #[.agg cx] W fun r w' => (∃ p n c, r = .returned (.tuple #[.slice p n c, .int .i64 0]) ∧ n = F.length ∧ RdB w' (.slice p n c) F) ∧ Below W.heap.size W w')
    (h0 : 0 < F.length) (hl : F.length ≤ 900000) (hcut : ∀ j, j < F.length → Rd.fine (F.take j) = false) (hmore : Rd.fine (F ++ [mb]) = false) :
    Calls Try.prog 9 #[.agg cx, .int .i64 cut, .int .u8 (mb.toNat : Int)] w fun r w' => r = .returned (.bool true) ∧ Below w.heap.size w w' := by
  have hn3 : Below w.heap.size w (w.alloc (.cells cx 31)) := (Below.refl w.heap.size w).alloc (Nat.le_refl _) (.cells cx 31)
  have hn4 : Keeps w (w.alloc (.cells cx 31)) := hn3.block
  have HC := Lib.hid (And.intro (NcAt.new w cx) (And.intro hn4 hn3))
  have HL := Lib.hid hL
  have HBy := Lib.hid hB
  clear hn3 hn4 hL hB
  obtain ⟨U, hU, hU64⟩ : ∃ U : Nat, IntKind.u64.wrap cut = (U : Int) ∧ U < 2 ^ 64 := ⟨(IntKind.u64.wrap cut).toNat, by rw [IntKind.wrap_u64]; omega, by rw [IntKind.wrap_u64]; omega⟩
  obtain ⟨L, hLn⟩ : ∃ L, F.length = L := ⟨_, rfl⟩
  rw [hLn] at h0 hl
  obtain ⟨J, hJ⟩ : ∃ J, U % L = J := ⟨_, rfl⟩
  have hJL : J < L := by rw [← hJ]; exact Nat.mod_lt _ h0
  have e1 : IntKind.u64.wrap (L : Int) = (L : Int) := IntWalk.u64_in _ (by omega)
  have e2 : ((L : Int) == 0) = false := by simp; omega
  have e3 : decide ((L : Int) = 0) = false := by simp; omega
  have e3' : decide (L = 0) = false := by simp; omega
  have e3'' : ¬ (L = 0) := by omega
  have e4 : Int.tmod (U : Int) (L : Int) = (J : Int) := by rw [← hJ]; exact Int.ofNat_tmod U L
  have e5 : (U : Int) % (L : Int) = (J : Int) := by rw [← hJ]; rfl
  have e6 : IntKind.u64.wrap (J : Int) = (J : Int) := IntWalk.u64_in _ (by omega)
  have e7 : IntKind.i64.wrap (J : Int) = (J : Int) := IntWalk.i64_in _ (by omega)
  have HF := Lib.hid (And.intro (hcut J (by omega)) hmore)
  have HLn := Lib.hid hLn
  have hl' : L ≤ 900000 := hl
  clear hJ hcut hmore hLn
  go_enter Try.func9, Try.ntmps9
  go_wp2_with (first
    | (refine wpList_load_nc rfl (.tmp 3) rfl rfl HC.out.1 hs ?_)
    | (go_at_call 16; (with_reducible refine (HL.out _ HC.out.2.1).mono ?_); rintro r w1 ⟨rfl, hB⟩; have HC := Lib.hid (And.intro (HC.out.1.keeps hB.block) (And.intro (HC.out.2.1.trans hB.block) (HC.out.2.2.trans (hB.mono HC.out.2.2.size)))); clear hB)
    | (go_at_call 18; go_loud ((with_reducible refine (HBy.out _ HC.out.2.1).mono ?_); rintro r w2 ⟨⟨p, n, c, rfl, hn, hr⟩, hB⟩; have hn' := hn.trans HLn.out; subst hn'; have HR := Lib.hid hr; have hcap := (RdB.cap_le hr).1; have hsl := (fun W => run_slice_hi (P := Try.prog) 29 5 Try.underlying29 1 (show (Try.prog.info? 5).map (·.size) = some 1 by kernel_rfl) p n c J (by omega) W); have HB2 := Lib.hid (HC.out.2.2.trans (hB.mono HC.out.2.2.size)); have HR1 := Lib.hid (hr.first J (by omega)); clear hB hn hr hcap))
    | (go_at_call 43; first
      | (with_reducible refine (read_bad_w _ _ _ HR1.out (by rw [List.length_take]; omega) HF.out.1).mono ?_
         rintro r w3 ⟨⟨p3, n3, c3, q3, m3, d3, rfl⟩, hB⟩
         obtain ⟨W4, hW4⟩ : ∃ W4, w3.alloc (.cells #[.int .u8 0, .int .u64 0, .int .u64 0, .int .u64 0, .int .u64 0, .int .u64 0, .bool false, .slice p3 n3 c3, .slice q3 m3 d3] 31) = W4 := ⟨_, rfl⟩
         have HW4 := Lib.hid hW4
         have HZ3 := Lib.hid (heap_alloc_new w3 (.cells zN 31))
         have hB4 : Below w2.heap.size w2 W4 := by rw [← hW4]; exact hB.alloc hB.size _
         have HB4 := Lib.hid (HB2.out.trans (hB4.mono HB2.out.size))
         have HR4 := Lib.hid ((HR.out.keeps hB4.block).keeps ((Keeps.refl W4).alloc (.cells #[] 5)))
         have HO4 := Lib.hid (OB.new W4 5)
         have Hone4 := Lib.hid (show (#[Value.int .u8 0, .int .u64 0, .int .u64 0, .int .u64 0, .int .u64 0, .int .u64 0, .bool false, .slice p3 n3 c3, .slice q3 m3 d3]).all (·.oneCell') = true by simp [Value.oneCell'])
         clear hB hB4 hW4)
      | (with_reducible refine (read_bad_w _ _ _ HR6.out (by rw [List.length_append, HLn.out]; simp; omega) HF.out.2).mono ?_
         rintro r w7 ⟨⟨p7, n7, c7, q7, m7, d7, rfl⟩, hB⟩
         have HZ7 := Lib.hid (heap_alloc_new w7 (.cells zN 31))
         obtain ⟨W8, hW8⟩ : ∃ W8, w7.alloc (.cells #[.int .u8 0, .int .u64 0, .int .u64 0, .int .u64 0, .int .u64 0, .int .u64 0, .bool false, .slice p7 n7 c7, .slice q7 m7 d7] 31) = W8 := ⟨_, rfl⟩
         have HW8 := Lib.hid hW8
         have hB8 : Below w6.heap.size w6 W8 := by rw [← hW8]; exact hB.alloc hB.size _
         have HB8 := Lib.hid (HB6.out.trans (hB8.mono HB6.out.size))
         have Hone8 := Lib.hid (show (#[Value.int .u8 0, .int .u64 0, .int .u64 0, .int .u64 0, .int .u64 0, .int .u64 0, .bool false, .slice p7 n7 c7, .slice q7 m7 d7]).all (·.oneCell') = true by simp [Value.oneCell'])
         clear hB hB8 hW8))
    | (refine wpList_alloc_zero rfl 31 rfl _ hz31 ?_)
    | (refine wpList_store_rowTo rfl 31 (.tmp 9) (.tmp 44) rfl rfl _ _ rfl rfl 31 zN HZ3.out (show _ = some 9 by kernel_rfl) rfl Hone4.out ?_; rw [alloc_setRow, HW4.out])
    | (refine wpList_store_rowTo rfl 31 (.tmp 11) (.tmp 54) rfl rfl _ _ rfl rfl 31 zN HZ7.out (show _ = some 9 by kernel_rfl) rfl Hone8.out ?_; rw [alloc_setRow, HW8.out])
    | (refine wpList_append_bytes rfl (.tmp 47) (.tmp 48) 29 rfl hel rfl HO4.out rfl HR4.out (by rw [HLn.out]; simp; omega) (by simp) ?_; intro p5 n5 c5 w5 hn5 ho5 hg5; have Hn5 := Lib.hid hn5; have HB5 := Lib.hid ((HB4.out.alloc HB4.out.size _).trans ((below_own HO4.out hg5 (by simp)).mono HB4.out.size)); have H77 := Lib.hid (by have h := RdB_one w5 5 mb.toNat mb.toNat_lt; rw [UInt8.ofNat_toNat] at h; exact h); have HO5 := Lib.hid (ho5.alloc (.cells #[.int .u8 (mb.toNat : Int)] 5)); have Hs5 := Lib.hid (show W4.heap.size ≤ (w5.alloc (.cells #[.int .u8 (mb.toNat : Int)] 5)).heap.size from (by have := hg5.size; simp at this; simp; omega)); clear hn5 ho5 hg5)
    | (refine wpList_append_bytes rfl (.tmp 49) (.tmp 51) 29 rfl hel rfl HO5.out rfl H77.out (by simp; rw [HLn.out]; omega) Hs5.out ?_; intro p6 n6 c6 w6 hn6 ho6 hg6; have HB6 := Lib.hid ((HB5.out.alloc HB5.out.size _).trans ((below_own HO5.out hg6 Hs5.out).mono HB4.out.size)); have HR6 := Lib.hid (by have h := ho6.rd; rw [List.nil_append] at h; exact h); clear hn6 ho6 hg6)
    | (go_at_call 17; (with_reducible refine (known23_w _).mono ?_); rintro r w9 ⟨rfl, hB⟩; have HB9 := Lib.hid (HB8.out.trans (hB.mono HB8.out.size)); clear hB))
  go_ret
  exact ⟨rfl, HB9.out⟩
theorem ncut_w (x : Nt) (lv dv : Value) (S : Foot) (cut : Int) (mb : UInt8) (w : World) (h : NtA w S lv dv x) (d : ∀ e ∈ x.list, e.2.length ≤ 140737488351232) :
    Calls Try.prog 9 #[ntv x lv dv, .int .i64 cut, .int .u8 (mb.toNat : Int)] w fun r w' => r = .returned (.bool true) ∧ Below w.heap.size w w' := by
  rw [ntv_ntc]
  have hL : ∀ W, Keeps w W → Calls Try.prog 16 #[.agg (ntc x lv dv)] W fun r w' => r = .returned (.bool (largeN x)) ∧ Below W.heap.size W w' := fun W k => large_w x _ _ S W (h.keeps k) d
  cases hx : largeN x with
  | true => rw [hx] at hL; exact ncutA_w w _ cut _ rfl hL
  | false =>
    rw [hx] at hL
    have hn := (not_large hx).1
    cases hm : mayN x with
    | false =>
      refine ncutC_w w _ cut _ rfl hL fun W k => ?_
      refine (noteBytes_w x lv dv S W (h.keeps k) hn).mono ?_
      rintro r w' ⟨hb, hB⟩
      refine ⟨?_, hB⟩
      rcases hb with ⟨hm', _⟩ | ⟨_, rfl⟩
      · rw [hm] at hm'; cases hm'
      · rfl
    | true =>
      refine ncutE_w w _ cut mb (formN x) rfl hL (fun W k => ?_) (formN_pos x) (formN_len hm h.fit) (fun j hj => Rd.fine_cut hm h.fit j hj) (Rd.fine_more hm h.fit mb)
      refine (noteBytes_w x lv dv S W (h.keeps k) hn).mono ?_
      rintro r w' ⟨hb, hB⟩
      refine ⟨?_, hB⟩
      rcases hb with ⟨_, p, n, c, rfl, hl, ho⟩ | ⟨hm', rfl⟩
      · exact ⟨p, n, c, rfl, hl, ho.rd⟩
      · rw [hm] at hm'; cases hm'
end Go.Proofs.Yteellfgiejnigaa
