/- The walk of the law NotesBytes. -/
import Derived.Test.YteellfgiejnigaaQbX10
namespace Go.Proofs.Yteellfgiejnigaa
open Go.ChangeShapes Go.WideShapes Go.ChangeAt Go.RowKit
set_option linter.unusedVariables false
theorem noteC_large {W : World} {S : Foot} {x : Nt} {cx : Array Value} (h : NoteC W S x cx) (hd : ∀ e ∈ x.list, e.2.length ≤ 140737488351232) : Calls Try.prog 16 #[.agg cx] W fun r w' => r = .returned (.bool (largeN x)) ∧ Below W.heap.size W w' := by
  obtain ⟨lv, dv, rfl, a⟩ := h; exact large_w x lv dv S W a hd
theorem noteC_may {W : World} {S : Foot} {x : Nt} {cx : Array Value} (h : NoteC W S x cx) (hn : x.list.length ≤ 1000000) : Calls Try.prog 46 #[.agg cx] W fun r w' => r = .returned (.bool (mayN x)) ∧ Below W.heap.size W w' := by
  obtain ⟨lv, dv, rfl, a⟩ := h; exact nmay_w x lv dv S W a hn
theorem noteC_rmay {W : World} {S : Foot} {x : Nt} {cx : Array Value} (h : NoteC W S x cx) (hn : x.list.length ≤ 1000000) : Calls Try.prog 47 #[.agg cx] W fun r w' => r = .returned (.bool (mayN x)) ∧ Below W.heap.size W w' := by
  obtain ⟨lv, dv, rfl, a⟩ := h; exact rmay_w x lv dv S W a hn
theorem noteC_bytes {W : World} {S : Foot} {x : Nt} {cx : Array Value} (h : NoteC W S x cx) (hn : x.list.length ≤ 1000000) : Calls Try.prog 18 #[.agg cx] W fun r w' => BytesP x W.heap.size r w' ∧ Below W.heap.size W w' := by
  obtain ⟨lv, dv, rfl, a⟩ := h; exact noteBytes_w x lv dv S W a hn
theorem noteC_rbytes {W : World} {S : Foot} {x : Nt} {cx : Array Value} (h : NoteC W S x cx) (hm : mayN x = true) : Calls Try.prog 48 #[.agg cx] W fun e w' => (∃ p n c, e = .returned (.slice p n c) ∧ OB w' W.heap.size 5 (.slice p n c) (formN x)) ∧ Below W.heap.size W w' := by
  obtain ⟨lv, dv, rfl, a⟩ := h; exact rbytes_w x lv dv S W a hm
theorem noteC_same19 {W : World} {S1 S2 : Foot} {x : Nt} {cx cz : Array Value} (h1 : NoteC W S1 x cx) (h2 : NoteC W S2 x cz) (hn : x.list.length ≤ 1000000) :
    Calls Try.prog 19 #[.agg cx, .agg cz] W fun e w' => e = .returned (.bool true) ∧ Below W.heap.size W w' := by
  obtain ⟨lv, dv, rfl, a⟩ := h1
  obtain ⟨lv2, dv2, rfl, c⟩ := h2
  have h := noteSame_w x x lv dv lv2 dv2 S1 S2 W a c hn
  rw [(sameN_iff x x).2 rfl] at h
  exact h
theorem noteC_copy {W : World} {S : Foot} {x : Nt} {cx : Array Value} (h : NoteC W S x cx) (hn : x.list.length ≤ 1000) (hl : ∀ e ∈ x.list, e.2.length ≤ 1000000) (hd : x.data.length ≤ 140737488351232) :
    Calls Try.prog 45 #[.agg cx] W fun e w' => ∃ cy, e = .returned (.agg cy) ∧ NoteC w' (fun p => W.heap.size ≤ p) x cy ∧ Below W.heap.size W w' := by
  obtain ⟨lv, dv, rfl, a⟩ := h
  obtain ⟨⟨pl, cl, rfl⟩, ⟨pd, cd, rfl⟩⟩ := a.forms
  obtain ⟨k, t, r, i, s, c, y, L, D⟩ := x
  exact ncopy_w k t r i s c y L D pl pd cl cd S W a hn hl hd
theorem NoteC.fit {W : World} {S : Foot} {x : Nt} {cx : Array Value} (h : NoteC W S x cx) : x.Fit := by
  obtain ⟨lv, dv, rfl, a⟩ := h; exact a.fit
theorem NoteC.frame {W W' : World} {S : Foot} {x : Nt} {cx : Array Value} (h : NoteC W S x cx) (hs : SameOn S W W') : NoteC W' S x cx := by
  obtain ⟨lv, dv, e, a⟩ := h; exact ⟨lv, dv, e, a.frame hs⟩
theorem NoteC.mono {W : World} {S S' : Foot} {x : Nt} {cx : Array Value} (h : NoteC W S x cx) (hs : ∀ b, b < W.heap.size → S b → S' b) : NoteC W S' x cx := by
  obtain ⟨lv, dv, e, a⟩ := h; exact ⟨lv, dv, e, a.mono hs⟩
theorem NoteC.touch {W W' : World} {S T : Foot} {x : Nt} {cx : Array Value} (h : NoteC W S x cx) (ht : Touch T W W') (hd : ∀ b, S b → ¬ T b) : NoteC W' S x cx :=
  ((h.mono (S' := fun b => S b ∧ b < W.heap.size) fun b hb hs => ⟨hs, hb⟩).frame fun b hb => ht.block b hb.2 (hd b hb.1)).mono fun b _ hb => hb.1
/-- What is written of a note is read as it. -/
theorem readback_w {x : Nt} (hm : mayN x = true) (hf : x.Fit) (v : Value) (W : World) (h : RdB W v (formN x)) :
    Calls Try.prog 43 #[v] W fun r w' => ∃ cz, r = .returned (.tuple #[.agg cz, .int .i64 0]) ∧ NoteC w' (fun p => W.heap.size ≤ p) x cz ∧ Below W.heap.size W w' := by
  refine (read43_w v (formN x) W h (Nat.le_trans (formN_len hm hf) (by decide))).mono ?_
  intro r w' hr
  obtain ⟨cz, rfl, hz, hB⟩ := NoteC.of_read hr
  obtain ⟨h1, h2⟩ := Rd.fine_back hm hf
  rw [h2] at hz
  refine ⟨cz, ?_, hz, hB⟩
  unfold Rd.fault
  rw [if_pos h1]
/-- The argument and its copy. -/
structure NbS (w W : World) (x : Nt) (cx cy : Array Value) (b3 : Nat) : Prop where
  acx : NcAt W w.heap.size cx
  acy : NcAt W b3 cy
  nx : NoteC W (fun b => b < w.heap.size) x cx
  ny : NoteC W (fun b => w.heap.size ≤ b) x cy
  below : Below w.heap.size w W
theorem NbS.keep {w W W' : World} {x : Nt} {cx cy : Array Value} {b3 : Nat} (h : NbS w W x cx cy b3) (hB : Below W.heap.size W W') : NbS w W' x cx cy b3 :=
  ⟨h.acx.keeps hB.block, h.acy.keeps hB.block, h.nx.keeps hB.block, h.ny.keeps hB.block, h.below.trans (hB.mono h.below.size)⟩
theorem u8_up (z : Nat) : ∃ y : Nat, y < 256 ∧ IntKind.u8.wrap ((z : Int) + 1) = (y : Int) := ⟨(IntKind.u8.wrap ((z : Int) + 1)).toNat, by rw [IntKind.wrap_u8]; omega, by rw [IntKind.wrap_u8]; omega⟩

set_option maxRecDepth 100000 in
set_option maxHeartbeats 6400000 in
theorem nbytesA_w (x : Nt) (cx : Array Value) (w : World) (h : NoteC w (fun b => b < w.heap.size) x cx) (hd0 : ∀ e ∈ x.list, e.2.length ≤ 140737488351232) (hlg : largeN x = true) :
    Calls Try.prog 10 #[.agg cx] w fun r w' => r = .returned (.bool true) ∧ Below w.heap.size w w' := by
  have hs := h.size
  have HC := Lib.hid (And.intro (NcAt.new w cx) (And.intro (h.keeps (show Keeps w (w.alloc (.cells cx 31)) from (Keeps.refl w).alloc _)) ((Below.refl w.heap.size w).alloc (Nat.le_refl _) (.cells cx 31))))
  clear h
  go_enter Try.func10, Try.ntmps10
  go_wp2_with (first
    | (refine wpList_load_nc rfl (.tmp 1) rfl rfl HC.out.1 hs ?_)
    | (go_at_call 16; go_loud ((with_reducible refine (noteC_large HC.out.2.1 hd0).mono ?_); rw [hlg]; rintro r w1 ⟨rfl, hB⟩; have HC := Lib.hid (And.intro (HC.out.1.keeps hB.block) (And.intro (HC.out.2.1.keeps hB.block) (HC.out.2.2.trans (hB.mono HC.out.2.2.size)))); clear hB))
    | (go_at_call 17; (with_reducible refine (known23_w _).mono ?_); rintro r w9 ⟨rfl, hB⟩; have HB9 := Lib.hid (HC.out.2.2.trans (hB.mono HC.out.2.2.size)); clear hB))
  go_ret
  exact ⟨rfl, HB9.out⟩
set_option maxRecDepth 100000 in
set_option maxHeartbeats 6400000 in
theorem nbytesC_w (x : Nt) (cx : Array Value) (w : World) (h : NoteC w (fun b => b < w.heap.size) x cx) (hd0 : ∀ e ∈ x.list, e.2.length ≤ 140737488351232) (hlg : largeN x = false) (hn3 : x.list.length ≤ 1000) (hl6 : ∀ e ∈ x.list, e.2.length ≤ 1000000) (hdat : x.data.length ≤ 140737488351232) (hm : mayN x = false) :
    Calls Try.prog 10 #[.agg cx] w fun r w' => r = .returned (.bool true) ∧ Below w.heap.size w w' := by
  have hs := h.size
  have HC := Lib.hid (And.intro (NcAt.new w cx) (And.intro (h.keeps (show Keeps w (w.alloc (.cells cx 31)) from (Keeps.refl w).alloc _)) ((Below.refl w.heap.size w).alloc (Nat.le_refl _) (.cells cx 31))))
  have hn6 : x.list.length ≤ 1000000 := by omega
  clear h
  go_enter Try.func10, Try.ntmps10
  go_wp2_with (first
    | (refine wpList_load_nc rfl (.tmp 1) rfl rfl HC.out.1 hs ?_)
    | (go_at_call 16; go_loud ((with_reducible refine (noteC_large HC.out.2.1 hd0).mono ?_); rw [hlg]; rintro r w1 ⟨rfl, hB⟩; have HC := Lib.hid (And.intro (HC.out.1.keeps hB.block) (And.intro (HC.out.2.1.keeps hB.block) (HC.out.2.2.trans (hB.mono HC.out.2.2.size)))); clear hB))
    | (go_at_call 45; (with_reducible refine (noteC_copy HC.out.2.1 hn3 hl6 hdat).mono ?_); rintro r w3 ⟨cy, rfl, hy, hB⟩
       have HZ3 := Lib.hid (heap_alloc_new w3 (.cells zN 31))
       obtain ⟨W4, hW4⟩ : ∃ W4, w3.alloc (.cells cy 31) = W4 := ⟨_, rfl⟩
       have HW4 := Lib.hid hW4
       have hB4 : Below w1.heap.size w1 W4 := by rw [← hW4]; exact hB.alloc hB.size _
       have hk34 : Keeps w3 W4 := by rw [← hW4]; exact (Keeps.refl w3).alloc _
       have HS4 := Lib.hid (show NbS w W4 x cx cy w3.heap.size from ⟨HC.out.1.keeps hB4.block, by rw [← hW4]; exact NcAt.new w3 cy, HC.out.2.1.keeps hB4.block, (hy.keeps hk34).mono (fun b _ hb => Nat.le_trans HC.out.2.2.size hb), HC.out.2.2.trans (hB4.mono HC.out.2.2.size)⟩)
       have hsy := hy.size
       have Hone3 := Lib.hid hy.one
       clear hB hB4 hW4 hk34 hy)
    | (refine wpList_alloc_zero rfl 31 rfl _ hz31 ?_)
    | (refine wpList_store_rowTo rfl 31 (.tmp 3) (.tmp 13) rfl rfl _ cy rfl rfl 31 zN HZ3.out (show _ = some cy.size by rw [hsy]; kernel_rfl) (by rw [hsy]; rfl) Hone3.out ?_; rw [alloc_setRow, HW4.out])
    | (refine wpList_load_nc rfl (.tmp 3) rfl rfl HS4.out.acy hsy ?_)
    | (go_at_call 18; (with_reducible refine (noteC_bytes HS4.out.ny hn6).mono ?_); rintro r w5 ⟨hb, hB⟩; have HS5 := Lib.hid (HS4.out.keep hB)
       have hb' : r = .returned (.tuple #[.slice none 0 0, .int .i64 2]) := by
         rcases hb with ⟨hm', _⟩ | ⟨_, h'⟩
         · rw [hm] at hm'; cases hm'
         · exact h'
       subst hb'
       clear hb hB))
  have HR5 := Lib.hid (fun (W : World) (hR : RegT.Grow w5.drew W) => HS5.out.keep ((Below.refl w5.heap.size w5).drew.trans hR))
  apply RegT.wp_region_T rfl 92 17 rfl (by kernel_rfl) RegT.Grow RegT.Grow.refl RegT.Grow.trans
  · apply RegT.T_pure rfl rfl rfl
    · exact fun W hR => load_nc (.tmp 3) rfl rfl (HR5.out W hR).acy hsy
    simp only [List.set_cons_succ, List.set_cons_zero, Nat.reduceAdd]
    apply RegT.T_const rfl rfl rfl (.bool false) (fun _ _ h => h)
    · intro W hR hf
      have Hc := Lib.hid (hm ▸ noteC_may (HR5.out W hR).ny hn6)
      clear hR hf
      go_simp
      exact RegT.OpOK_enter Hc.out (fun e w' h => ⟨_, h.1, rfl, h.2⟩)
    simp only [List.set_cons_succ, List.set_cons_zero, Nat.reduceAdd]
    apply RegT.T_pure rfl rfl rfl
    · exact fun W hR => load_nc (.tmp 1) rfl rfl (HR5.out W hR).acx hs
    simp only [List.set_cons_succ, List.set_cons_zero, Nat.reduceAdd]
    apply RegT.T_const rfl rfl rfl (.bool false) (fun _ _ h => h)
    · intro W hR hf
      have Hc := Lib.hid (hm ▸ noteC_rmay (HR5.out W hR).nx hn6)
      clear hR hf
      go_simp
      exact RegT.OpOK_enter Hc.out (fun e w' h => ⟨_, h.1, rfl, h.2⟩)
    simp only [List.set_cons_succ, List.set_cons_zero, Nat.reduceAdd]
    apply RegT.T_pure (v := .bool false) rfl rfl rfl
    · intro W hR; clear hR; go_simp
    simp only [List.set_cons_succ, List.set_cons_zero, Nat.reduceAdd]
    apply RegT.T_pure (v := .bool false) rfl rfl rfl
    · intro W hR; clear hR; go_simp
    simp only [List.set_cons_succ, List.set_cons_zero, Nat.reduceAdd]
    apply RegT.T_pure rfl rfl rfl
    · exact fun W hR => load_nc (.tmp 3) rfl rfl (HR5.out W hR).acy hsy
    simp only [List.set_cons_succ, List.set_cons_zero, Nat.reduceAdd]
    apply RegT.T_pure rfl rfl rfl
    · exact fun W hR => load_nc (.tmp 1) rfl rfl (HR5.out W hR).acx hs
    simp only [List.set_cons_succ, List.set_cons_zero, Nat.reduceAdd]
    apply RegT.T_const rfl rfl rfl (.bool true) (fun _ _ h => h)
    · intro W hR hf
      have Hc := Lib.hid (noteC_same (HR5.out W hR).ny (HR5.out W hR).nx hn6)
      clear hR hf
      go_simp
      exact RegT.OpOK_enter Hc.out (fun e w' h => ⟨_, h.1, rfl, h.2⟩)
    simp only [List.set_cons_succ, List.set_cons_zero, Nat.reduceAdd]
    apply RegT.T_pure (v := .bool false) rfl rfl rfl
    · intro W hR; clear hR; go_simp
    simp only [List.set_cons_succ, List.set_cons_zero, Nat.reduceAdd]
    apply RegT.T_pure (v := .bool false) rfl rfl rfl
    · intro W hR; clear hR; go_simp
    simp only [List.set_cons_succ, List.set_cons_zero, Nat.reduceAdd]
    apply RegT.T_pure (v := .bool false) rfl rfl rfl
    · intro W hR; clear hR; go_simp
    simp only [List.set_cons_succ, List.set_cons_zero, Nat.reduceAdd]
    apply RegT.T_pure rfl rfl rfl
    · exact fun W hR => load_nc (.tmp 3) rfl rfl (HR5.out W hR).acy hsy
    simp only [List.set_cons_succ, List.set_cons_zero, Nat.reduceAdd]
    apply RegT.T_pure rfl rfl rfl
    · exact fun W hR => load_nc (.tmp 1) rfl rfl (HR5.out W hR).acx hs
    simp only [List.set_cons_succ, List.set_cons_zero, Nat.reduceAdd]
    apply RegT.T_const rfl rfl rfl (.bool true) (fun _ _ h => h)
    · intro W hR hf
      have Hc := Lib.hid (noteC_same19 (HR5.out W hR).ny (HR5.out W hR).nx hn6)
      clear hR hf
      go_simp
      exact RegT.OpOK_enter Hc.out (fun e w' h => ⟨_, h.1, rfl, h.2⟩)
    simp only [List.set_cons_succ, List.set_cons_zero, Nat.reduceAdd]
    apply RegT.T_pure (v := .bool false) rfl rfl rfl
    · intro W hR; clear hR; go_simp
    simp only [List.set_cons_succ, List.set_cons_zero, Nat.reduceAdd]
    apply RegT.T_pure (v := .bool false) rfl rfl rfl
    · intro W hR; clear hR; go_simp
    simp only [List.set_cons_succ, List.set_cons_zero, Nat.reduceAdd]
    refine RegT.T_end rfl (fun W6 hR hf => ?_)
    have HS6 := Lib.hid (HR5.out W6 hR)
    clear hR hf HR5
    go_wp2_with (first
      | (refine wpList_load_nc rfl (.tmp 1) rfl rfl HS6.out.acx hs ?_)
      | (go_at_call 47; go_loud ((with_reducible refine (noteC_rmay HS6.out.nx hn6).mono ?_); rw [hm]; rintro r w7 ⟨rfl, hB⟩; have HS7 := Lib.hid (HS6.out.keep hB); clear hB))
      | (go_at_call 17; (with_reducible refine (known23_w _).mono ?_); rintro r w9 ⟨rfl, hB⟩; have HB9 := Lib.hid (HS7.out.below.trans (hB.mono HS7.out.below.size)); clear hB))
    go_ret
    exact ⟨rfl, HB9.out⟩
  · rfl
  · kernel_rfl
set_option maxRecDepth 100000 in
set_option maxHeartbeats 6400000 in
theorem nbytesE_w (x : Nt) (cx : Array Value) (w : World) (h : NoteC w (fun b => b < w.heap.size) x cx) (hd0 : ∀ e ∈ x.list, e.2.length ≤ 140737488351232) (hlg : largeN x = false) (hn3 : x.list.length ≤ 1000) (hl6 : ∀ e ∈ x.list, e.2.length ≤ 1000000) (hdat : x.data.length ≤ 140737488351232) (hm : mayN x = true) :
    Calls Try.prog 10 #[.agg cx] w fun r w' => r = .returned (.bool true) ∧ Below w.heap.size w w' := by
  have hs := h.size
  have HC := Lib.hid (And.intro (NcAt.new w cx) (And.intro (h.keeps (show Keeps w (w.alloc (.cells cx 31)) from (Keeps.refl w).alloc _)) ((Below.refl w.heap.size w).alloc (Nat.le_refl _) (.cells cx 31))))
  have hn6 : x.list.length ≤ 1000000 := by omega
  clear h
  go_enter Try.func10, Try.ntmps10
  go_wp2_with (first
    | (refine wpList_load_nc rfl (.tmp 1) rfl rfl HC.out.1 hs ?_)
    | (go_at_call 16; go_loud ((with_reducible refine (noteC_large HC.out.2.1 hd0).mono ?_); rw [hlg]; rintro r w1 ⟨rfl, hB⟩; have HC := Lib.hid (And.intro (HC.out.1.keeps hB.block) (And.intro (HC.out.2.1.keeps hB.block) (HC.out.2.2.trans (hB.mono HC.out.2.2.size)))); clear hB))
    | (go_at_call 45; (with_reducible refine (noteC_copy HC.out.2.1 hn3 hl6 hdat).mono ?_); rintro r w3 ⟨cy, rfl, hy, hB⟩
       have HZ3 := Lib.hid (heap_alloc_new w3 (.cells zN 31))
       obtain ⟨W4, hW4⟩ : ∃ W4, w3.alloc (.cells cy 31) = W4 := ⟨_, rfl⟩
       have HW4 := Lib.hid hW4
       have hB4 : Below w1.heap.size w1 W4 := by rw [← hW4]; exact hB.alloc hB.size _
       have hk34 : Keeps w3 W4 := by rw [← hW4]; exact (Keeps.refl w3).alloc _
       have HS4 := Lib.hid (show NbS w W4 x cx cy w3.heap.size from ⟨HC.out.1.keeps hB4.block, by rw [← hW4]; exact NcAt.new w3 cy, HC.out.2.1.keeps hB4.block, (hy.keeps hk34).mono (fun b _ hb => Nat.le_trans HC.out.2.2.size hb), HC.out.2.2.trans (hB4.mono HC.out.2.2.size)⟩)
       have hsy := hy.size
       have Hone3 := Lib.hid hy.one
       clear hB hB4 hW4 hk34 hy)
    | (refine wpList_alloc_zero rfl 31 rfl _ hz31 ?_)
    | (refine wpList_store_rowTo rfl 31 (.tmp 3) (.tmp 13) rfl rfl _ cy rfl rfl 31 zN HZ3.out (show _ = some cy.size by rw [hsy]; kernel_rfl) (by rw [hsy]; rfl) Hone3.out ?_; rw [alloc_setRow, HW4.out])
    | (refine wpList_load_nc rfl (.tmp 3) rfl rfl HS4.out.acy hsy ?_)
    | (go_at_call 18; (with_reducible refine (noteC_bytes HS4.out.ny hn6).mono ?_); rintro r w5 ⟨hb, hB⟩; have HS5 := Lib.hid (HS4.out.keep hB)
       have hb' : ∃ p n c, r = .returned (.tuple #[.slice p n c, .int .i64 0]) ∧ n = (formN x).length ∧ OB w5 W4.heap.size 5 (.slice p n c) (formN x) := by
         rcases hb with ⟨_, h'⟩ | ⟨hm', _⟩
         · exact h'
         · rw [hm] at hm'; cases hm'
       obtain ⟨p, n, c, rfl, hnl, ho⟩ := hb'
       obtain ⟨g, rfl, _⟩ := ho.some (by have := formN_pos x; omega)
       have hgl := (ho.cell hnl (j := 0) (formN_pos x)).2.2
       have HO5 := Lib.hid ho
       have HG5 := Lib.hid hgl
       have HNL := Lib.hid hnl
       have hn9 : n ≤ 900000 := by rw [hnl]; exact formN_len hm HS4.out.nx.fit
       have hw4 : w.heap.size < W4.heap.size := lt_of_at HS4.out.acx
       clear hb hB ho hgl hnl))
  have HR5 := Lib.hid (fun (W : World) (hR : RegT.Grow w5.drew W) => HS5.out.keep ((Below.refl w5.heap.size w5).drew.trans hR))
  have HQ5 := Lib.hid (fun (W : World) (hR : RegT.Grow w5.drew W) => HO5.out.keeps (show Keeps w5 W from ((Below.refl w5.heap.size w5).drew.trans hR).block))
  apply RegT.wp_region_T rfl 92 17 rfl (by kernel_rfl) RegT.Grow RegT.Grow.refl RegT.Grow.trans
  · apply RegT.T_pure rfl rfl rfl
    · exact fun W hR => load_nc (.tmp 3) rfl rfl (HR5.out W hR).acy hsy
    simp only [List.set_cons_succ, List.set_cons_zero, Nat.reduceAdd]
    apply RegT.T_const rfl rfl rfl (.bool true) (fun _ _ h => h)
    · intro W hR hf
      have Hc := Lib.hid (hm ▸ noteC_may (HR5.out W hR).ny hn6)
      clear hR hf
      go_simp
      exact RegT.OpOK_enter Hc.out (fun e w' h => ⟨_, h.1, rfl, h.2⟩)
    simp only [List.set_cons_succ, List.set_cons_zero, Nat.reduceAdd]
    apply RegT.T_pure rfl rfl rfl
    · exact fun W hR => load_nc (.tmp 1) rfl rfl (HR5.out W hR).acx hs
    simp only [List.set_cons_succ, List.set_cons_zero, Nat.reduceAdd]
    apply RegT.T_const rfl rfl rfl (.bool true) (fun _ _ h => h)
    · intro W hR hf
      have Hc := Lib.hid (hm ▸ noteC_rmay (HR5.out W hR).nx hn6)
      clear hR hf
      go_simp
      exact RegT.OpOK_enter Hc.out (fun e w' h => ⟨_, h.1, rfl, h.2⟩)
    simp only [List.set_cons_succ, List.set_cons_zero, Nat.reduceAdd]
    apply RegT.T_pure (v := .bool false) rfl rfl rfl
    · intro W hR; clear hR; go_simp
    simp only [List.set_cons_succ, List.set_cons_zero, Nat.reduceAdd]
    apply RegT.T_pure (v := .bool false) rfl rfl rfl
    · intro W hR; clear hR; go_simp
    simp only [List.set_cons_succ, List.set_cons_zero, Nat.reduceAdd]
    apply RegT.T_pure rfl rfl rfl
    · exact fun W hR => load_nc (.tmp 3) rfl rfl (HR5.out W hR).acy hsy
    simp only [List.set_cons_succ, List.set_cons_zero, Nat.reduceAdd]
    apply RegT.T_pure rfl rfl rfl
    · exact fun W hR => load_nc (.tmp 1) rfl rfl (HR5.out W hR).acx hs
    simp only [List.set_cons_succ, List.set_cons_zero, Nat.reduceAdd]
    apply RegT.T_const rfl rfl rfl (.bool true) (fun _ _ h => h)
    · intro W hR hf
      have Hc := Lib.hid (noteC_same (HR5.out W hR).ny (HR5.out W hR).nx hn6)
      clear hR hf
      go_simp
      exact RegT.OpOK_enter Hc.out (fun e w' h => ⟨_, h.1, rfl, h.2⟩)
    simp only [List.set_cons_succ, List.set_cons_zero, Nat.reduceAdd]
    apply RegT.T_pure (v := .bool false) rfl rfl rfl
    · intro W hR; clear hR; go_simp
    simp only [List.set_cons_succ, List.set_cons_zero, Nat.reduceAdd]
    apply RegT.T_pure (v := .bool false) rfl rfl rfl
    · intro W hR; clear hR; go_simp
    simp only [List.set_cons_succ, List.set_cons_zero, Nat.reduceAdd]
    apply RegT.T_pure (v := .bool false) rfl rfl rfl
    · intro W hR; clear hR; go_simp
    simp only [List.set_cons_succ, List.set_cons_zero, Nat.reduceAdd]
    apply RegT.T_pure rfl rfl rfl
    · exact fun W hR => load_nc (.tmp 3) rfl rfl (HR5.out W hR).acy hsy
    simp only [List.set_cons_succ, List.set_cons_zero, Nat.reduceAdd]
    apply RegT.T_pure rfl rfl rfl
    · exact fun W hR => load_nc (.tmp 1) rfl rfl (HR5.out W hR).acx hs
    simp only [List.set_cons_succ, List.set_cons_zero, Nat.reduceAdd]
    apply RegT.T_const rfl rfl rfl (.bool true) (fun _ _ h => h)
    · intro W hR hf
      have Hc := Lib.hid (noteC_same19 (HR5.out W hR).ny (HR5.out W hR).nx hn6)
      clear hR hf
      go_simp
      exact RegT.OpOK_enter Hc.out (fun e w' h => ⟨_, h.1, rfl, h.2⟩)
    simp only [List.set_cons_succ, List.set_cons_zero, Nat.reduceAdd]
    apply RegT.T_pure (v := .bool false) rfl rfl rfl
    · intro W hR; clear hR; go_simp
    simp only [List.set_cons_succ, List.set_cons_zero, Nat.reduceAdd]
    apply RegT.T_pure (v := .bool false) rfl rfl rfl
    · intro W hR; clear hR; go_simp
    simp only [List.set_cons_succ, List.set_cons_zero, Nat.reduceAdd]
    refine RegT.T_end rfl (fun W6 hR hf => ?_)
    have HS6 := Lib.hid (HR5.out W6 hR)
    have HO6 := Lib.hid (HQ5.out W6 hR)
    have hgl6 : g < W6.heap.size := Nat.lt_of_lt_of_le HG5.out.1 (((Below.refl w5.heap.size w5).drew.trans hR).size)
    clear hR hf HR5 HQ5
    go_wp2_with (first
      | (refine wpList_load_nc rfl (.tmp 1) rfl rfl HS6.out.acx hs ?_)
      | (go_at_call 47; go_loud ((with_reducible refine (noteC_rmay HS6.out.nx hn6).mono ?_); rw [hm]; rintro r w7 ⟨rfl, hB⟩; have HS7 := Lib.hid (HS6.out.keep hB); have HO7 := Lib.hid (HO6.out.keeps (show Keeps W6 w7 from hB.block)); have hgl7 : g < w7.heap.size := Nat.lt_of_lt_of_le hgl6 hB.size; clear hB))
      | (go_at_call 43; (with_reducible refine (readback_w hm HS7.out.nx.fit _ _ HO7.out.rd).mono ?_); rintro r w8 ⟨cz, rfl, hz, hB⟩
         have HZ8 := Lib.hid (heap_alloc_new w8 (.cells zN 31))
         obtain ⟨W9, hW9⟩ : ∃ W9, w8.alloc (.cells cz 31) = W9 := ⟨_, rfl⟩
         have HW9 := Lib.hid hW9
         have hB9 : Below w7.heap.size w7 W9 := by rw [← hW9]; exact hB.alloc hB.size _
         have hk89 : Keeps w8 W9 := by rw [← hW9]; exact (Keeps.refl w8).alloc _
         have HS9 := Lib.hid (HS7.out.keep hB9)
         have HO9 := Lib.hid (HO7.out.keeps (show Keeps w7 W9 from hB9.block))
         have HZ9 := Lib.hid (show NcAt W9 w8.heap.size cz from by rw [← hW9]; exact NcAt.new w8 cz)
         have HNz9 := Lib.hid (hz.keeps hk89)
         have hw78 : w7.heap.size ≤ w8.heap.size := hB.size
         have hsz := hz.size
         have Hone8 := Lib.hid hz.one
         clear hB hB9 hW9 hk89 hz)
      | (refine wpList_alloc_zero rfl 31 rfl _ hz31 ?_)
      | (refine wpList_store_rowTo rfl 31 (.tmp 6) (.tmp 52) rfl rfl _ cz rfl rfl 31 zN HZ8.out (show _ = some cz.size by rw [hsz]; kernel_rfl) (by rw [hsz]; rfl) Hone8.out ?_; rw [alloc_setRow, HW9.out]))
    have HR9 := Lib.hid (fun (W : World) (hR : RegT.Grow W9.drew W) => (show NbS w W x cx cy w3.heap.size ∧ NcAt W w8.heap.size cz ∧ NoteC W (fun b => w7.heap.size ≤ b) x cz ∧ OB W W4.heap.size 5 (.slice (some ⟨g, 0, none⟩) n c) (formN x) from by have hB := ((Below.refl W9.heap.size W9).drew.trans hR); exact ⟨HS9.out.keep hB, HZ9.out.keeps hB.block, HNz9.out.keeps hB.block, HO9.out.keeps hB.block⟩))
    apply RegT.wp_region_T rfl 92 20 rfl (by kernel_rfl) RegT.Grow RegT.Grow.refl RegT.Grow.trans
    · apply RegT.T_pure rfl rfl rfl
      · intro W hR; clear hR; go_simp; rfl
      simp only [List.set_cons_succ, List.set_cons_zero, Nat.reduceAdd]
      apply RegT.T_pure (v := .bool false) rfl rfl rfl
      · intro W hR; clear hR; go_simp
      simp only [List.set_cons_succ, List.set_cons_zero, Nat.reduceAdd]
      apply RegT.T_pure (v := .bool false) rfl rfl rfl
      · intro W hR; clear hR; go_simp
      simp only [List.set_cons_succ, List.set_cons_zero, Nat.reduceAdd]
      apply RegT.T_pure rfl rfl rfl
      · intro W hR; clear hR; go_simp; rfl
      simp only [List.set_cons_succ, List.set_cons_zero, Nat.reduceAdd]
      apply RegT.T_pure (v := .bool false) rfl rfl rfl
      · intro W hR; clear hR; go_simp
      simp only [List.set_cons_succ, List.set_cons_zero, Nat.reduceAdd]
      apply RegT.T_pure (v := .bool false) rfl rfl rfl
      · intro W hR; clear hR; go_simp
      simp only [List.set_cons_succ, List.set_cons_zero, Nat.reduceAdd]
      apply RegT.T_pure (v := .bool false) rfl rfl rfl
      · intro W hR; clear hR; go_simp
      simp only [List.set_cons_succ, List.set_cons_zero, Nat.reduceAdd]
      apply RegT.T_pure rfl rfl rfl
      · intro W hR; clear hR; go_simp; rfl
      simp only [List.set_cons_succ, List.set_cons_zero, Nat.reduceAdd]
      apply RegT.T_pure (v := .string ⟨(formN x).toArray⟩) rfl rfl rfl
      · intro W hR
        have hc := run_convert_str (P := Try.prog) (HR9.out W hR).2.2.2.rd 29 5 9 Try.underlying29 Try.underlying5 Try.underlying9
        clear hR
        go_simp
      simp only [List.set_cons_succ, List.set_cons_zero, Nat.reduceAdd]
      apply RegT.T_pure rfl rfl rfl
      · exact fun W hR => load_nc (.tmp 1) rfl rfl (HR9.out W hR).1.acx hs
      simp only [List.set_cons_succ, List.set_cons_zero, Nat.reduceAdd]
      apply RegT.T_predC rfl rfl rfl 11 (RdP (formN x)) (fun _ _ h => h) (fun y x z hR h => h.keeps hR.block)
      · intro W hR hf
        have Hc := Lib.hid (noteC_rbytes (HR9.out W hR).1.nx hm)
        clear hR hf
        go_simp
        exact RegT.OpOK_enter Hc.out (fun e w' ⟨⟨p, n, c, he, ho⟩, hB⟩ => ⟨_, he, ⟨p, n, c, rfl, ho.rd⟩, hB⟩)
      intro v10
      simp only [List.set_cons_succ, List.set_cons_zero, Nat.reduceAdd]
      apply RegT.T_const rfl rfl rfl (.string ⟨(formN x).toArray⟩) (fun _ _ h => h)
      · intro W hR hf
        obtain ⟨p1, n1, c1, rfl, hr1⟩ : RdP (formN x) v10 W := hf _ (.head _) (by kernel_rfl) (.inr rfl)
        have hc := run_convert_str (P := Try.prog) hr1 29 5 9 Try.underlying29 Try.underlying5 Try.underlying9
        clear hR hf hr1
        go_simp
        exact RegT.OpOK_value ⟨rfl, RegT.Grow.refl _⟩
      simp only [List.set_cons_succ, List.set_cons_zero, Nat.reduceAdd]
      apply RegT.T_pure (v := .bool false) rfl rfl rfl
      · intro W hR; clear hR; go_simp
      simp only [List.set_cons_succ, List.set_cons_zero, Nat.reduceAdd]
      apply RegT.T_pure (v := .bool false) rfl rfl rfl
      · intro W hR; clear hR; go_simp
      simp only [List.set_cons_succ, List.set_cons_zero, Nat.reduceAdd]
      apply RegT.T_pure (v := .bool false) rfl rfl rfl
      · intro W hR; clear hR; go_simp
      simp only [List.set_cons_succ, List.set_cons_zero, Nat.reduceAdd]
      apply RegT.T_pure rfl rfl rfl
      · exact fun W hR => load_nc (.tmp 1) rfl rfl (HR9.out W hR).1.acx hs
      simp only [List.set_cons_succ, List.set_cons_zero, Nat.reduceAdd]
      apply RegT.T_pure rfl rfl rfl
      · exact fun W hR => load_nc (.tmp 6) rfl rfl (HR9.out W hR).2.1 hsz
      simp only [List.set_cons_succ, List.set_cons_zero, Nat.reduceAdd]
      apply RegT.T_const rfl rfl rfl (.bool true) (fun _ _ h => h)
      · intro W hR hf
        have Hc := Lib.hid (noteC_same (HR9.out W hR).1.nx (HR9.out W hR).2.2.1 hn6)
        clear hR hf
        go_simp
        exact RegT.OpOK_enter Hc.out (fun e w' h => ⟨_, h.1, rfl, h.2⟩)
      simp only [List.set_cons_succ, List.set_cons_zero, Nat.reduceAdd]
      apply RegT.T_pure (v := .bool false) rfl rfl rfl
      · intro W hR; clear hR; go_simp
      simp only [List.set_cons_succ, List.set_cons_zero, Nat.reduceAdd]
      apply RegT.T_pure (v := .bool false) rfl rfl rfl
      · intro W hR; clear hR; go_simp
      simp only [List.set_cons_succ, List.set_cons_zero, Nat.reduceAdd]
      refine RegT.T_end rfl (fun Wa hR hf => ?_)
      have HRa := Lib.hid (HR9.out Wa hR)
      clear hR hf HR9
      go_wp2
      go_loopw [8] (fun ix wr => ∃ q : Nat, q ≤ n ∧ ix = .int .i64 (q : Int) ∧ Hid (∃ l, n = l.length ∧ OB wr W4.heap.size 5 (.slice (some ⟨g, 0, none⟩) n c) l) ∧ Hid (Touch (fun b => b = g) Wa wr)) (fun ix _ => n - (intOf ix).toNat)
      case atStart => exact ⟨0, Nat.zero_le _, rfl, Lib.hid ⟨_, HNL.out, HRa.out.2.2.2⟩, Lib.hid (Touch.refl _ _)⟩
      case round =>
        obtain ⟨q, hq, rfl, HL, HT⟩ := hrel
        by_cases hlt : q < n
        · obtain ⟨l, hll, hol⟩ := HL.out
          obtain ⟨hc, hf, _, _⟩ := hol.cell hll (j := q) (by omega)
          have HOl := Lib.hid hol
          have Hll := Lib.hid hll
          have hz256 : (l.getD q 0).toNat < 256 := UInt8.toNat_lt _
          generalize (l.getD q 0).toNat = z at *
          obtain ⟨y, hy, hyw⟩ := u8_up z
          have Hyw := Lib.hid hyw
          clear hol hll HL
          go_wp2
          go_roundw
          case rel =>
            refine ⟨q + 1, by omega, by go_num, Lib.hid ⟨l.set q (UInt8.ofNat y), by rw [List.length_set]; exact Hll.out, ?_⟩, Lib.hid (HT.out.trans (S1 := fun b => b = g) (Touch.of_grownBy (Lib.grownBy_setCell _ _ _ _) fun b e => by cases e; rfl) fun b _ e => e)⟩
            have h := HOl.out.set Hll.out q (UInt8.ofNat y)
            rw [Form.byte_lt _ hy] at h
            exact h
          case measure => simp [intOf]; omega
        · have hB := HT.out
          have hwa : w7.heap.size ≤ Wa.heap.size := Nat.le_trans hw78 (Nat.le_of_lt (lt_of_at HRa.out.2.1))
          have hgw : w.heap.size < g := Nat.lt_of_lt_of_le hw4 HG5.out.2
          have hcx : NcAt wr w.heap.size cx := (hB.block _ (lt_of_at HRa.out.1.acx) (by omega)).trans HRa.out.1.acx
          have hcz : NcAt wr w8.heap.size cz := (hB.block _ (lt_of_at HRa.out.2.1) (by omega)).trans HRa.out.2.1
          have HSm := Lib.hid (noteC_same (HRa.out.1.nx.touch hB (fun b hb e => by have hb' : b < w.heap.size := hb; have e' : b = g := e; omega)) (HRa.out.2.2.1.touch hB (fun b hb e => by have hb' : w7.heap.size ≤ b := hb; have e' : b = g := e; omega)) hn6)
          have HBr := Lib.hid (HRa.out.1.below.trans (hB.below HRa.out.1.below.size (fun b e => by have e' : b = g := e; omega)))
          clear hB HL
          go_wp2_with (first
            | (refine wpList_load_nc rfl (.tmp 1) rfl rfl hcx hs ?_)
            | (refine wpList_load_nc rfl (.tmp 6) rfl rfl hcz hsz ?_)
            | (go_at_call 20; (with_reducible refine (HSm.out).mono ?_); rintro r wb ⟨rfl, hB⟩; have HBb := Lib.hid (HBr.out.trans (hB.mono HBr.out.size)); clear hB)
            | (go_at_call 17; (with_reducible refine (known23_w _).mono ?_); rintro r wc ⟨rfl, hB⟩; have HBc := Lib.hid (HBb.out.trans (hB.mono HBb.out.size)); clear hB))
          go_ret
          exact ⟨rfl, HBc.out⟩
    · rfl
    · kernel_rfl
  · rfl
  · kernel_rfl
theorem nbytes_w (x : Nt) (lv dv : Value) (w : World) (h : NtA w (fun b => b < w.heap.size) lv dv x) (d : ∀ e ∈ x.list, e.2.length ≤ 140737488351232) (hdat : x.data.length ≤ 140737488351232) :
    Calls Try.prog 10 #[ntv x lv dv] w fun r w' => r = .returned (.bool true) ∧ Below w.heap.size w w' := by
  rw [ntv_ntc]
  have hC : NoteC w (fun b => b < w.heap.size) x (ntc x lv dv) := ⟨lv, dv, rfl, h⟩
  cases hx : largeN x with
  | true => exact nbytesA_w x _ w hC d hx
  | false =>
    obtain ⟨h1, h2, h3, h4⟩ := not_large hx
    have hl6 : ∀ e ∈ x.list, e.2.length ≤ 1000000 := fun e he => by have := le_dsum _ e he; omega
    cases hm : mayN x with
    | false => exact nbytesC_w x _ w hC d hx (by omega) hl6 hdat hm
    | true => exact nbytesE_w x _ w hC d hx (by omega) hl6 hdat hm
end Go.Proofs.Yteellfgiejnigaa
