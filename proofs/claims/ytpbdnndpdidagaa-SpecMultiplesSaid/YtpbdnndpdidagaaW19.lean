/- Walk of the law WireReads. -/
import Derived.Test.YtpbdnndpdidagaaW18
import Derived.Deep.RegionWith
namespace Go.Proofs.Ytpbdnndpdidagaa
open Go.ChangeShapes Go.WideShapes Go.ChangeAt Go.RowKit
set_option linter.unusedVariables false

/-- The value reads as these calls. -/
def RdAsk (w : World) (v : Value) (ls : List (Int × Int)) : Prop := ∃ p cap, v = .slice p ls.length cap ∧ ls.length ≤ 9223372036854775807 ∧
  (∀ x ∈ ls, -9223372036854775808 ≤ x.2 ∧ x.2 ≤ 9223372036854775807) ∧
  (ls ≠ [] → ∃ b off, p = some ⟨b, off, none⟩ ∧ b < w.heap.size ∧ ∀ i, i < ls.length → w.cell? ⟨b, off + i * 2, none⟩ = some (.int .i64 (ls.getD i (0, 0)).1) ∧ w.cell? ⟨b, off + i * 2 + 1, none⟩ = some (.int .i64 (ls.getD i (0, 0)).2))

theorem Marked.kept {base : Nat} {l : List UInt8} {v : Value} {x y : World} {k : Nat} (h : Marked base l v x) (hg : x.grownBy y (some k)) (ho : ∀ a n c, v = .slice (some a) n c → a.block ≠ k) : Marked base l v y := by
  obtain ⟨g, c, e, h1, h2⟩ := h
  refine ⟨g, c, e, h1, ?_⟩
  rcases h2 with ⟨h2, _⟩ | ⟨g', cap, cur, hv, hg', hh, r⟩
  · cases h2
  · have hgg : g = g' := by simp at hv; exact hv.1
    subst hgg
    have := ho _ _ _ e
    refine .inr ⟨g, cap, cur, hv, hg', ?_, r⟩
    rw [hg.block g (Array.getElem?_eq_some_iff.1 hh).1 (by simpa using this)]
    exact hh

theorem Marked.blk {base : Nat} {l : List UInt8} {v : Value} {w : World} (h : Marked base l v w) : ∃ g c, v = .slice (some ⟨g, 0, none⟩) l.length c ∧ g < w.heap.size := by
  obtain ⟨g, c, e, h1, h2⟩ := h
  refine ⟨g, c, e, ?_⟩
  rcases h2 with ⟨h2, _⟩ | ⟨g', cap, cur, hv, hg', hh, r⟩
  · cases h2
  · have hgg : g = g' := by simp at hv; exact hv.1
    subst hgg
    exact (Array.getElem?_eq_some_iff.1 hh).1
theorem ob_keptBy {w w' : World} {base : Nat} {e : TypeId} {v : Value} {l : List UInt8} (h : OB w base e v l) {x : Nat} (hg : w.grownBy w' (some x)) (hx : x < base) : OB w' base e v l := by
  refine ⟨h.1, ?_⟩
  rcases h.2 with h2 | ⟨k, cap, cur, hv, hk, hh, r⟩
  · exact .inl h2
  · exact .inr ⟨k, cap, cur, hv, hk, by rw [hg.block k (Array.getElem?_eq_some_iff.1 hh).1 (by simp; omega)]; exact hh, r⟩
/-- Where the script stands: the reader at block G, the document's at G + 1, the bytes that were lent, those that came in. -/
structure SR (w W : World) (G base : Nat) (sin sb : Value) (b : List UInt8) (a : Nat) (e : Int) (a2 : Nat) (e2 : Int) : Prop where
  below : Below w.heap.size w W
  rd : Rdr W G sin a e
  rf : RAt W (G + 1) 52 b a2 e2 w.heap.size
  mkd : Marked base b sin W
  bb : RdB W sb b
  ob : ∀ x, w.heap.size ≤ x → Off sb x
  oi : ∀ a n c, sin = .slice (some a) n c → a.block < G
  hG : w.heap.size ≤ G
  al : a ≤ b.length
  al2 : a2 ≤ b.length
theorem SR.lt {w W : World} {G base : Nat} {sin sb : Value} {b : List UInt8} {a : Nat} {e : Int} {a2 : Nat} {e2 : Int} (h : SR w W G base sin sb b a e a2 e2) : G + 1 < W.heap.size := by
  obtain ⟨v, h1, _⟩ := h.rf
  exact h1.lt
theorem SR.off {w W : World} {G base : Nat} {sin sb : Value} {b : List UInt8} {a : Nat} {e : Int} {a2 : Nat} {e2 : Int} (h : SR w W G base sin sb b a e a2 e2) {x : Nat} (hx : G ≤ x) : Off sin x := fun ad n c hs _ => by have := h.oi ad n c hs; omega
theorem SR.grow {w W W' : World} {G base : Nat} {sin sb : Value} {b : List UInt8} {a : Nat} {e : Int} {a2 : Nat} {e2 : Int} (h : SR w W G base sin sb b a e a2 e2) (hB : Below W.heap.size W W') : SR w W' G base sin sb b a e a2 e2 :=
  ⟨h.below.trans (hB.mono h.below.size), h.rd.keeps hB.block, h.rf.keeps hB.block, h.mkd.keeps hB.block, h.bb.below hB, h.ob, h.oi, h.hG, h.al, h.al2⟩
theorem SR.kept {w W W' : World} {G base : Nat} {sin sb : Value} {b : List UInt8} {a : Nat} {e : Int} {a2 : Nat} {e2 : Int} (h : SR w W G base sin sb b a e a2 e2) {x : Nat} (hg : W.grownBy W' (some x)) (hx : G + 1 < x) : SR w W' G base sin sb b a e a2 e2 :=
  have hG := h.hG
  ⟨h.below.grown hg h.below.size (fun k e => by cases e; omega), h.rd.kept hg (by simp; omega), h.rf.kept hg (by omega) (by omega), h.mkd.kept hg (fun ad n c hs => by have := h.oi ad n c hs; omega), h.bb.grown hg (h.ob x (by omega)), h.ob, h.oi, h.hG, h.al, h.al2⟩
theorem SR.moveR {w W W' : World} {G base : Nat} {sin sb : Value} {b : List UInt8} {a : Nat} {e : Int} {a2 : Nat} {e2 : Int} (h : SR w W G base sin sb b a e a2 e2) {a' : Nat} {e' : Int} (hm : Moved W W' G sin a' e') (ha : a' ≤ b.length) : SR w W' G base sin sb b a' e' a2 e2 :=
  have hG := h.hG
  ⟨h.below.grown hm.2 h.below.size (fun k e => by cases e; omega), hm.1, h.rf.kept hm.2 (by omega) (by omega), h.mkd.kept hm.2 (fun ad n c hs => by have := h.oi ad n c hs; omega), h.bb.grown hm.2 (h.ob G hG), h.ob, h.oi, h.hG, ha, h.al2⟩
theorem SR.moveF {w W W' : World} {G base : Nat} {sin sb : Value} {b : List UInt8} {a : Nat} {e : Int} {a2 : Nat} {e2 : Int} (h : SR w W G base sin sb b a e a2 e2) {a' : Nat} {e' : Int} (hm : RM W W' (G + 1) 52 b a' e' w.heap.size) (ha : a' ≤ b.length) : SR w W' G base sin sb b a e a' e' :=
  have hG := h.hG
  ⟨h.below.grown hm.grown h.below.size (fun k e => by cases e; omega), h.rd.kept hm.grown (by simp), hm.at_, h.mkd.kept hm.grown (fun ad n c hs => by have := h.oi ad n c hs; omega), h.bb.grown hm.grown (h.ob _ (by omega)), h.ob, h.oi, h.hG, h.al, ha⟩
theorem flg_le {b : List UInt8} {a : Nat} {e : Int} {f : Bool} {a' : Nat} {e' : Int} (h : Form.flg b a e = (f, a', e')) (ha : a ≤ b.length) : a' ≤ b.length := by
  unfold Form.flg at h
  split at h
  · cases h; exact ha
  · split at h
    · cases h; exact ha
    · rename_i x hx
      have := (List.getElem?_eq_some_iff.1 hx).1
      split at h
      · cases h; exact ha
      · cases h; omega

set_option maxRecDepth 100000 in
set_option maxHeartbeats 3200000 in
theorem reads_in_w (vb_ vl : Value) (b : List UInt8) (ls : List (Int × Int)) (w : World) (hb : RdB w vb_ b) (hl : RdAsk w vl ls) (hbl : b.length ≤ 100000) (hll : ls.length ≤ 5000) :
    Calls Try.prog 7 #[vb_, vl] w fun r w' => r = .returned (.bool true) ∧ Below w.heap.size w w' := by
  have Hb := Lib.hid hb
  have Hl := Lib.hid hl
  obtain ⟨p, c, rfl, hp⟩ := hb
  obtain ⟨pl, cl, rfl, hl1, hl2, hl3⟩ := hl
  have Hl3 := Lib.hid hl3
  have Hl2 := Lib.hid hl2
  have hd1 : decide (100000 < (b.length : Int)) = false := by simp; omega
  have hd2 : decide (5000 < (ls.length : Int)) = false := by simp; omega
  clear hp hl3 hl2
  go_enter Try.func7, Try.ntmps7
  go_wp2_with (first
    | (go_at_call 21; refine (lent_w _ b _ Hb.out (by omega)).mono ?_; rintro r w1 ⟨sin, rfl, hm, hB⟩
       have Hm := Lib.hid hm
       have HB := Lib.hid hB
       obtain ⟨gm, cm, hsin, hgm⟩ := hm.blk
       subst hsin
       clear hB hm)
    | (go_at_call 29; refine (new_w _ _ _ _).mono ?_; rintro r w2 ⟨rfl, rfl⟩))
  have hsz1 : w.heap.size ≤ w1.heap.size := HB.out.size
  have hSR : SR w ((w1.alloc (.cells #[.slice (some ⟨gm, 0, none⟩) b.length cm, .int .i64 0, .int .i64 0] 79)).alloc (.cells #[.slice p b.length c, .int .i64 0] 52)) w1.heap.size w.heap.size (.slice (some ⟨gm, 0, none⟩) b.length cm) (.slice p b.length c) b 0 0 0 0 := by
    have hk : Keeps w1 ((w1.alloc (.cells #[.slice (some ⟨gm, 0, none⟩) b.length cm, .int .i64 0, .int .i64 0] 79)).alloc (.cells #[.slice p b.length c, .int .i64 0] 52)) := ((Keeps.refl w1).alloc _).alloc _
    have hb2 := (Hb.out.below HB.out).keeps hk
    have h52 := heap_alloc_new (w1.alloc (.cells #[.slice (some ⟨gm, 0, none⟩) b.length cm, .int .i64 0, .int .i64 0] 79)) (.cells #[.slice p b.length c, .int .i64 0] 52)
    rw [heap_alloc_size] at h52
    refine ⟨(HB.out.alloc hsz1 _).alloc (by simp; omega) _, ?_, ⟨_, h52, hb2, fun x hx => Hb.out.off hx⟩, Hm.out.keeps hk, hb2, fun x hx => Hb.out.off hx, ?_, hsz1, Nat.zero_le _, Nat.zero_le _⟩
    · exact (((Keeps.refl _).alloc _) w1.heap.size (by simp)).trans (heap_alloc_new w1 _)
    · intro a n c' e
      simp only [Value.slice.injEq, Option.some.injEq] at e
      rw [← e.1]; exact hgm
  have HSR := Lib.hid hSR
  have Hgm := Lib.hid hgm
  clear hSR hgm
  generalize (w1.alloc (.cells #[.slice (some ⟨gm, 0, none⟩) b.length cm, .int .i64 0, .int .i64 0] 79)).alloc (.cells #[.slice p b.length c, .int .i64 0] 52) = W0 at *
  generalize w1.heap.size = G at *
  clear Hm HB
  go_wp2
  go_loopw [33] (fun i wr => ∃ (k a : Nat) (e : Int), k ≤ ls.length ∧ i = .int .i64 (k : Int) ∧ SR w wr G w.heap.size (.slice (some ⟨gm, 0, none⟩) b.length cm) (.slice p b.length c) b a e a e) (fun i _ => ls.length - (intOf i).toNat)
  case atStart => exact ⟨0, 0, 0, Nat.zero_le _, rfl, HSR.out⟩
  case round =>
    obtain ⟨k, a, e, hk, rfl, hS⟩ := hrel
    have HS := Lib.hid hS
    clear hS
    by_cases hlt : k < ls.length
    · obtain ⟨bl, ol, rfl, hbl2, hcl⟩ := Hl3.out (by rintro rfl; simp at hlt)
      have hc := hcl k hlt
      obtain ⟨hck, hcm⟩ := hc
      have hmb := Hl2.out (ls.getD k (0, 0)) (by rw [getD_of_lt _ _ _ hlt]; exact List.getElem_mem _)
      generalize ls.getD k (0, 0) = q at *
      obtain ⟨kd, m⟩ := q
      simp only at hck hcm hmb
      have hck' : wr.cell? ⟨bl, ol + k * 2, none⟩ = some (.int .i64 kd) := by rw [HS.out.below.cell (p := ⟨bl, ol + k * 2, none⟩) hbl2]; exact hck
      have hcm' : wr.cell? ⟨bl, ol + k * 2 + 1, none⟩ = some (.int .i64 m) := by rw [HS.out.below.cell (p := ⟨bl, ol + k * 2 + 1, none⟩) hbl2]; exact hcm
      clear hcl hck hcm
      have hw : kd = 1 ∨ kd = 2 ∨ kd = 3 ∨ kd = 4 ∨ kd = 5 ∨ kd = 6 ∨ (kd ≠ 1 ∧ kd ≠ 2 ∧ kd ≠ 3 ∧ kd ≠ 4 ∧ kd ≠ 5 ∧ kd ≠ 6) := by omega
      rcases hw with rfl | rfl | rfl | rfl | rfl | rfl | ⟨h1, h2, h3, h4, h5, h6⟩
      · skip
        go_wp2_with (first
          | (go_at_call 30; refine (rnat_w _ _ b _ _ _ HS.out.rd HS.out.mkd.rd HS.out.al (by omega)).mono ?_; rintro r w3 ⟨n, a1, e1, h1, rfl, hm⟩; have S3 := Lib.hid (HS.out.moveR hm ((Form.small_le h1 HS.out.al).2.1)); have E1 := Lib.hid h1; clear h1 hm)
          | (go_at_call 36; refine (refrnat_w _ _ b _ _ _ _ S3.out.rf (by have := HS.out.hG; omega) S3.out.al2 (by omega)).mono ?_; rintro r w4 ⟨n2, a2, e2, h2, rfl, hm⟩; rw [E1.out] at h2; cases h2; have S4 := Lib.hid (S3.out.moveF hm S3.out.al); clear hm))
        obtain ⟨vr, hrr, hrb, hro⟩ := S4.out.rf
        obtain ⟨pr, cr, hvr, hpr⟩ := hrb
        subst hvr
        have hcr := hrr.cell0
        rw [List.length_drop] at hcr
        have D := Lib.hid (fun j => Calls.quiet_of (w := w4) (n := j) (left_q G (.slice (some ⟨gm, 0, none⟩) b.length cm) b a1 e1 _ (S4.out.rd.same (drewN_same _ _)) (S4.out.mkd.rd.keeps (drewN_keeps _ _)) S4.out.al (by omega)))
        clear hpr hro hrr
        generalize b.length - a1 = mm at *
        go_quiet (with_reducible exact D.out _)
        go_wp2
        go_roundw
        case rel => exact ⟨k + 1, a1, e1, by omega, by go_num, S4.out.grow (drewN_same _ _).below⟩
        case measure => simp [intOf]; omega
      · skip
        obtain ⟨mu, hmu⟩ : ∃ mu : Nat, IntKind.u64.wrap m = (mu : Int) := ⟨(IntKind.u64.wrap m).toNat, by rw [IntKind.wrap_u64]; omega⟩
        have hmu2 : mu < 2 ^ 64 := by rw [IntKind.wrap_u64] at hmu; omega
        have Hmu2 := Lib.hid hmu2
        clear hmu2
        go_wp2_with (first
          | (go_at_call 37; refine (small_w _ _ b _ _ mu _ HS.out.rd HS.out.mkd.rd HS.out.al (by omega) Hmu2.out).mono ?_; rintro r w3 ⟨n, a1, e1, h1, rfl, hm⟩; have S3 := Lib.hid (HS.out.moveR hm ((Form.small_le h1 HS.out.al).2.1)); have E1 := Lib.hid h1; clear h1 hm)
          | (go_at_call 38; refine (refsmall_w _ _ b _ _ _ mu _ S3.out.rf (by have := HS.out.hG; omega) S3.out.al2 (by omega) Hmu2.out).mono ?_; rintro r w4 ⟨n2, a2, e2, h2, rfl, hm⟩; rw [E1.out] at h2; cases h2; have S4 := Lib.hid (S3.out.moveF hm S3.out.al); clear hm))
        obtain ⟨vr, hrr, hrb, hro⟩ := S4.out.rf
        obtain ⟨pr, cr, hvr, hpr⟩ := hrb
        subst hvr
        have hcr := hrr.cell0
        rw [List.length_drop] at hcr
        have D := Lib.hid (fun j => Calls.quiet_of (w := w4) (n := j) (left_q G (.slice (some ⟨gm, 0, none⟩) b.length cm) b a1 e1 _ (S4.out.rd.same (drewN_same _ _)) (S4.out.mkd.rd.keeps (drewN_keeps _ _)) S4.out.al (by omega)))
        clear hpr hro hrr
        generalize b.length - a1 = mm at *
        go_quiet (with_reducible exact D.out _)
        go_wp2
        go_roundw
        case rel => exact ⟨k + 1, a1, e1, by omega, by go_num, S4.out.grow (drewN_same _ _).below⟩
        case measure => simp [intOf]; omega
      · skip
        go_wp2_with (first
          | (go_at_call 31; refine (rint_w _ _ b _ _ _ HS.out.rd HS.out.mkd.rd HS.out.al (by omega)).mono ?_; rintro r w3 ⟨n, a1, e1, h1, rfl, hm⟩; have S3 := Lib.hid (HS.out.moveR hm ((Form.small_le h1 HS.out.al).2.1)); have E1 := Lib.hid h1; clear h1 hm)
          | (go_at_call 39; refine (refrint_w _ _ b _ _ _ _ S3.out.rf (by have := HS.out.hG; omega) S3.out.al2 (by omega)).mono ?_; rintro r w4 ⟨n2, a2, e2, h2, rfl, hm⟩; rw [E1.out] at h2; cases h2; have S4 := Lib.hid (S3.out.moveF hm S3.out.al); clear hm))
        obtain ⟨vr, hrr, hrb, hro⟩ := S4.out.rf
        obtain ⟨pr, cr, hvr, hpr⟩ := hrb
        subst hvr
        have hcr := hrr.cell0
        rw [List.length_drop] at hcr
        have D := Lib.hid (fun j => Calls.quiet_of (w := w4) (n := j) (left_q G (.slice (some ⟨gm, 0, none⟩) b.length cm) b a1 e1 _ (S4.out.rd.same (drewN_same _ _)) (S4.out.mkd.rd.keeps (drewN_keeps _ _)) S4.out.al (by omega)))
        clear hpr hro hrr
        generalize b.length - a1 = mm at *
        go_quiet (with_reducible exact D.out _)
        go_wp2
        go_roundw
        case rel => exact ⟨k + 1, a1, e1, by omega, by go_num, S4.out.grow (drewN_same _ _).below⟩
        case measure => simp [intOf]; omega
      · skip
        go_wp2_with (first
          | (go_at_call 40; refine (rflag_w _ _ b _ _ _ HS.out.rd HS.out.mkd.rd HS.out.al (by omega) (HS.out.off (Nat.le_refl _))).mono ?_; rintro r w3 ⟨n, a1, e1, h1, rfl, hm⟩; have S3 := Lib.hid (HS.out.moveR hm (flg_le h1 HS.out.al)); have E1 := Lib.hid h1; clear h1 hm)
          | (go_at_call 41; refine (refrflag_w _ _ b _ _ _ _ S3.out.rf (by have := HS.out.hG; omega) S3.out.al2 (by omega)).mono ?_; rintro r w4 ⟨n2, a2, e2, h2, rfl, hm⟩; rw [E1.out] at h2; cases h2; have S4 := Lib.hid (S3.out.moveF hm S3.out.al); clear hm))
        obtain ⟨vr, hrr, hrb, hro⟩ := S4.out.rf
        obtain ⟨pr, cr, hvr, hpr⟩ := hrb
        subst hvr
        have hcr := hrr.cell0
        rw [List.length_drop] at hcr
        have D := Lib.hid (fun j => Calls.quiet_of (w := w4) (n := j) (left_q G (.slice (some ⟨gm, 0, none⟩) b.length cm) b a1 e1 _ (S4.out.rd.same (drewN_same _ _)) (S4.out.mkd.rd.keeps (drewN_keeps _ _)) S4.out.al (by omega)))
        clear hpr hro hrr
        generalize b.length - a1 = mm at *
        go_quiet (with_reducible exact D.out _)
        go_wp2
        go_roundw
        case rel => exact ⟨k + 1, a1, e1, by omega, by go_num, S4.out.grow (drewN_same _ _).below⟩
        case measure => simp [intOf]; omega
      · skip
        go_wp2_with (
          go_at_call 32
          refine (rtext_w _ _ b _ _ m _ HS.out.rd HS.out.mkd.rd HS.out.al (by omega) (HS.out.off (Nat.le_refl _)) hmb).mono ?_
          rintro r w3 ⟨t, a1, e1, pt, kt, ct, h1, rfl, hkt, ho3, hm⟩
          subst hkt
          have S3 := Lib.hid (HS.out.moveR hm (Form.txt_le h1 HS.out.al).2.1)
          have htl := (Form.txt_le h1 HS.out.al).2.2
          have E1 := Lib.hid h1
          have Ho3 := Lib.hid ho3
          clear h1 ho3 hm)
        obtain ⟨St, ESt⟩ : ∃ S, Hid ((⟨t.toArray⟩ : ByteArray) = S) := ⟨_, Lib.hid rfl⟩
        have hgG := HS.out.lt
        have hcA := fun k => run_convert_str (P := Try.prog) (Ho3.out.rd.keeps (drewN_keeps w3 k)) 24 5 9 Try.underlying24 Try.underlying5 Try.underlying9
        have hcA1 := run_convert_str (P := Try.prog) (Ho3.out.rd.keeps (Keeps.refl w3).drew) 24 5 9 Try.underlying24 Try.underlying5 Try.underlying9
        rw [ESt.out] at hcA hcA1
        go_region_with (
          go_at_call 42
          refine (refrtext_w (G + 1) 52 b a e m w.heap.size _ (S3.out.rf.keeps (Keeps.refl w3).drew) (by have := HS.out.hG; omega) S3.out.al2 (by omega) hmb).mono ?_
          rintro r w4 ⟨t2, a2, e2, p2, k2, c2, h2, rfl, hk2, ho4, hm⟩
          rw [E1.out] at h2
          cases h2
          subst hk2
          have S4 := Lib.hid ((S3.out.grow (RegT.Same.below (B := w3.heap.size) (⟨rfl, rfl, rfl, rfl⟩ : RegT.Same w3 w3.drew))).moveF hm S3.out.al)
          have HoK := Lib.hid (ob_keptBy (Ho3.out.keeps (Keeps.refl w3).drew) hm.grown (by omega))
          have hoffG : Off (.slice pt t.length ct) (G + 1) := fun ad n c' hs _ => by
            rcases Ho3.out.2 with ⟨h2, _⟩ | ⟨g', cap, cur, hv, hg', _⟩
            · rw [h2] at hs; cases hs
            · rw [hv] at hs; cases hs; show g' ≠ G + 1; omega
          have hcB := run_convert_str (P := Try.prog) ((Ho3.out.rd.keeps (Keeps.refl w3).drew).grown hm.grown hoffG) 24 5 9 Try.underlying24 Try.underlying5 Try.underlying9
          have hcC := run_convert_str (P := Try.prog) ho4.rd 24 5 9 Try.underlying24 Try.underlying5 Try.underlying9
          rw [ESt.out] at hcB hcC
          clear ho4 hm hoffG)
        all_goals
          clear hcA hcA1 hcB hcC
          have hcap0 : t.length ≤ 100000 := by omega
          go_wp2
          go_loopw [92] (fun i wr2 => ∃ (j : Nat) (u : List UInt8), j ≤ t.length ∧ i = .int .i64 (j : Int) ∧ u.length = t.length ∧ OB wr2 wr.heap.size 5 (.slice pt t.length ct) u ∧ SR w wr2 G w.heap.size (.slice (some ⟨gm, 0, none⟩) b.length cm) (.slice p b.length c) b a1 e1 a1 e1) (fun i _ => t.length - (intOf i).toNat)
          case atStart => exact ⟨0, t, Nat.zero_le _, rfl, rfl, HoK.out, S4.out⟩
          case round =>
            obtain ⟨j, u, hj, rfl, hu, hob, hS⟩ := hrel
            have Hob := Lib.hid hob
            have S5 := Lib.hid hS
            have Hu := Lib.hid hu
            clear hob hS hu
            by_cases hjl : j < t.length
            · obtain ⟨gt, rfl, hgt⟩ := Hob.out.some (by omega)
              obtain ⟨hcj, hfj, hgl, _⟩ := Hob.out.cell Hu.out.symm (j := j) (by have := Hu.out; omega)
              have hx8 := UInt8.toNat_lt (u.getD j 0)
              have hxr := xor_u8 (u.getD j 0).toNat 255 (by omega) (by decide)
              have hx2 : (u.getD j 0).toNat ^^^ 255 = (u.getD j 0 ^^^ 255).toNat := by rw [UInt8.toNat_xor]; rfl
              rw [hx2] at hxr
              have Hst := Lib.hid (Hob.out.set Hu.out.symm j (u.getD j 0 ^^^ 255))
              obtain ⟨y, hy⟩ : ∃ y, y = u.getD j 0 ^^^ 255 := ⟨_, rfl⟩
              rw [← hy] at hxr Hst
              clear hx2 hy
              generalize (u.getD j 0).toNat = x at *
              have hxr' : bits .xor .u8 (x : Int) 255 = (y.toNat : Int) := hxr
              go_wp2
              go_roundw
              case rel => exact ⟨j + 1, u.set j y, by omega, by go_num, by rw [List.length_set]; exact Hu.out, Hst.out, S5.out.kept (Lib.grownBy_setCell _ _ _ _) (by omega)⟩
              case measure => simp [intOf]; omega
            · have hjt : j = t.length := by omega
              subst hjt
              have S4 := S5
              go_wp2
              obtain ⟨vr, hrr, hrb, hro⟩ := S4.out.rf
              obtain ⟨pr, cr, hvr, hpr⟩ := hrb
              subst hvr
              have hcr := hrr.cell0
              rw [List.length_drop] at hcr
              have D := Lib.hid (fun j => Calls.quiet_of (w := wr) (n := j) (left_q G (.slice (some ⟨gm, 0, none⟩) b.length cm) b a1 e1 _ (S4.out.rd.same (drewN_same _ _)) (S4.out.mkd.rd.keeps (drewN_keeps _ _)) S4.out.al (by omega)))
              clear hpr hro hrr
              generalize b.length - a1 = mm at *
              go_quiet (with_reducible exact D.out _)
              go_wp2
              go_roundw
              case rel => exact ⟨k + 1, a1, e1, by omega, by go_num, S4.out.grow (drewN_same _ _).below⟩
              case measure => simp [intOf]; omega
      · skip
        obtain ⟨mu, hmu⟩ : ∃ mu : Nat, IntKind.u64.wrap m = (mu : Int) := ⟨(IntKind.u64.wrap m).toNat, by rw [IntKind.wrap_u64]; omega⟩
        have hmu2 : mu < 2 ^ 64 := by rw [IntKind.wrap_u64] at hmu; omega
        have Hmu2 := Lib.hid hmu2
        clear hmu2
        obtain ⟨z, hz⟩ : ∃ z : Nat, z = mu % 10 := ⟨_, rfl⟩
        have hz1 : (mu : Int) % 10 = (z : Int) := by omega
        have hz2 : IntKind.i64.wrap (z : Int) = (z : Int) := IntWalk.i64_in _ (by omega)
        obtain ⟨e1, he1⟩ : ∃ e1, (if e = 0 then (z : Int) else e) = e1 := ⟨_, rfl⟩
        have He1 := Lib.hid he1
        clear hz he1
        go_wp2_with (first
          | (go_at_call 43; refine (fail_w _ _ _ _ (z : Int) _ HS.out.rd).mono ?_; rintro r w3 ⟨rfl, hm⟩; rw [He1.out] at hm; have S3 := Lib.hid (HS.out.moveR hm HS.out.al); clear hm)
          | (go_at_call 44; refine (refrfail_w _ _ b _ _ (z : Int) _ _ S3.out.rf (by have := HS.out.hG; omega)).mono ?_; rintro r w4 ⟨rfl, hm⟩; rw [He1.out] at hm; have S4 := Lib.hid (S3.out.moveF hm S3.out.al2); clear hm))
        obtain ⟨vr, hrr, hrb, hro⟩ := S4.out.rf
        obtain ⟨pr, cr, hvr, hpr⟩ := hrb
        subst hvr
        have hcr := hrr.cell0
        rw [List.length_drop] at hcr
        have D := Lib.hid (fun j => Calls.quiet_of (w := w4) (n := j) (left_q G (.slice (some ⟨gm, 0, none⟩) b.length cm) b a e1 _ (S4.out.rd.same (drewN_same _ _)) (S4.out.mkd.rd.keeps (drewN_keeps _ _)) S4.out.al (by omega)))
        clear hpr hro hrr
        generalize b.length - a = mm at *
        go_quiet (with_reducible exact D.out _)
        go_wp2
        go_roundw
        case rel => exact ⟨k + 1, a, e1, by omega, by go_num, S4.out.grow (drewN_same _ _).below⟩
        case measure => simp [intOf]; omega
      · have g1 : (kd == 1) = false := beq_eq_false_iff_ne.2 h1
        have g2 : (kd == 2) = false := beq_eq_false_iff_ne.2 h2
        have g3 : (kd == 3) = false := beq_eq_false_iff_ne.2 h3
        have g4 : (kd == 4) = false := beq_eq_false_iff_ne.2 h4
        have g5 : (kd == 5) = false := beq_eq_false_iff_ne.2 h5
        have g6 : (kd == 6) = false := beq_eq_false_iff_ne.2 h6
        obtain ⟨w4, hw4⟩ : ∃ w4, wr = w4 := ⟨_, rfl⟩
        subst hw4
        have S4 := HS
        go_wp2
        obtain ⟨vr, hrr, hrb, hro⟩ := S4.out.rf
        obtain ⟨pr, cr, hvr, hpr⟩ := hrb
        subst hvr
        have hcr := hrr.cell0
        rw [List.length_drop] at hcr
        have D := Lib.hid (fun j => Calls.quiet_of (w := wr) (n := j) (left_q G (.slice (some ⟨gm, 0, none⟩) b.length cm) b a e _ (S4.out.rd.same (drewN_same _ _)) (S4.out.mkd.rd.keeps (drewN_keeps _ _)) S4.out.al (by omega)))
        clear hpr hro hrr
        generalize b.length - a = mm at *
        go_quiet (with_reducible exact D.out _)
        go_wp2
        go_roundw
        case rel => exact ⟨k + 1, a, e, by omega, by go_num, S4.out.grow (drewN_same _ _).below⟩
        case measure => simp [intOf]; omega
    · have hkl : k = ls.length := by omega
      subst hkl
      obtain ⟨z, hz⟩ : ∃ z, Form.done b.length a e = z := ⟨_, rfl⟩
      have Hz := Lib.hid hz
      clear hz hk hlt
      go_wp2_with (first
        | (go_at_call 35; refine (done_w _ _ b _ _ _ HS.out.rd HS.out.mkd.rd HS.out.al).mono ?_; rintro r w3 ⟨rfl, hs⟩; have HS3 := Lib.hid (HS.out.grow hs.below); clear hs; rw [Hz.out])
        | (go_at_call 45; refine (refrdone_w _ _ b _ _ _ _ HS3.out.rf HS3.out.al (by omega)).mono ?_; rintro r w4 ⟨rfl, rfl⟩; rw [Hz.out])
        | (go_at_call 28; with_reducible refine (kept_w _ _ _ b _ HS3.out.mkd HS3.out.bb (by omega)).mono ?_; rintro r w5 ⟨rfl, hw5⟩; cases hw5)
        | (go_at_call 18; with_reducible refine (known_w _).mono ?_; rintro e w6 ⟨rfl, hB⟩; have HB6 := Lib.hid hB; clear hB))
      go_ret
      exact ⟨rfl, HS3.out.below.trans (HB6.out.mono HS3.out.below.size)⟩

set_option maxRecDepth 100000 in
theorem reads_w (vb_ vl : Value) (b : List UInt8) (ls : List (Int × Int)) (w : World) (hb : RdB w vb_ b) (hl : RdAsk w vl ls) :
    Calls Try.prog 7 #[vb_, vl] w fun r w' => r = .returned (.bool true) ∧ Below w.heap.size w w' := by
  by_cases hbig : b.length ≤ 100000 ∧ ls.length ≤ 5000
  · exact reads_in_w vb_ vl b ls w hb hl hbig.1 hbig.2
  · have hlb := hb.le
    obtain ⟨pb, cb, rfl, hpb⟩ := hb
    obtain ⟨pt, ct, rfl, hlt, _⟩ := hl
    by_cases h1 : 100000 < b.length
    · have hd1 : decide (100000 < (b.length : Int)) = true := by simp; omega
      clear hbig hpb
      go_enter Try.func7, Try.ntmps7
      go_wp2_with (go_at_call 18; with_reducible refine (known_w _).mono ?_; rintro e w2 ⟨rfl, hB⟩; have HB2 := Lib.hid hB; clear hB)
      go_ret
      exact ⟨rfl, HB2.out⟩
    · have hd1 : decide (100000 < (b.length : Int)) = false := by simp; omega
      have hd2 : decide (5000 < (ls.length : Int)) = true := by simp; omega
      clear hbig hpb
      go_enter Try.func7, Try.ntmps7
      go_wp2_with (go_at_call 18; with_reducible refine (known_w _).mono ?_; rintro e w2 ⟨rfl, hB⟩; have HB2 := Lib.hid hB; clear hB)
      go_ret
      exact ⟨rfl, HB2.out⟩
end Go.Proofs.Ytpbdnndpdidagaa
