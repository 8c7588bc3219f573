/- RaftSafe: H71, G72. -/
import Derived.Test.YteellfgiejnigaaQtA00
import Derived.Test.YteellfgiejnigaaQtA40
import Derived.Test.YteellfgiejnigaaQtA25
import Derived.Test.YteellfgiejnigaaQtA38
import Derived.Deep.MidRow
namespace Go.Proofs.Yteellfgiejnigaa
open Go.ChangeShapes Go.WideShapes Go.ChangeAt Go.RowKit
set_option linter.unusedVariables false
theorem ticks_len (dr : Nat → Nat) : ∀ (k h : Nat) (x : RS.W), x.mails.length ≤ 600 → (x.ticks dr k h).n = x.n ∧ (x.ticks dr k h).T = x.T ∧ (x.ticks dr k h).mails.length ≤ 600
 | 0, _, _, hx => ⟨rfl, rfl, hx⟩
 | k + 1, h, x, hx => by
  obtain ⟨a, b, c⟩ := tick_len hx h (dr h)
  obtain ⟨d, e, f⟩ := ticks_len dr k (h + 1) _ c
  exact ⟨d.trans a, e.trans b, f⟩
theorem flow_len (dr : Nat → Nat) : ∀ (k h : Nat) (x : RS.W), x.mails.length ≤ 600 → (x.flow dr k h).n = x.n ∧ (x.flow dr k h).T = x.T ∧ (x.flow dr k h).mails.length ≤ 600
 | 0, _, _, hx => ⟨rfl, rfl, hx⟩
 | k + 1, h, x, hx => by
  have e : x.flow dr (k + 1) h = (match x.mails with | [] => x | m :: ms => RS.W.flow dr k (h + 1) ((x.with_ ms).arrive m (dr h))) := rfl
  rw [e]
  cases hm : x.mails with
  | nil => exact ⟨rfl, rfl, hx⟩
  | cons m ms =>
   have h1 : (x.with_ ms).mails.length ≤ 600 := by show ms.length ≤ 600; rw [hm] at hx; have : (m :: ms).length = ms.length + 1 := rfl; omega
   obtain ⟨a, b, c⟩ := arrive_len h1 m (dr h)
   obtain ⟨d, e, f⟩ := flow_len dr k (h + 1) _ c
   exact ⟨d.trans a, e.trans b, f⟩
theorem event_len {x : RS.W} (h : x.mails.length ≤ 600) (e : RS.Ev) : (x.event e).n = x.n ∧ (x.event e).T = x.T ∧ (x.event e).mails.length ≤ 600 := by
 have her : (x.with_ (x.mails.eraseIdx e.k)).mails.length ≤ 600 := Nat.le_trans (List.length_eraseIdx_le _ _) h
 unfold RS.W.event
 by_cases h0 : e.kind = 0
 · rw [if_pos h0]
   exact tick_len h _ _
 rw [if_neg h0]
 by_cases h1 : e.kind = 1
 · rw [if_pos h1]
   split
   · exact ⟨rfl, rfl, h⟩
   · exact arrive_len her _ _
 rw [if_neg h1]
 by_cases h2 : e.kind = 2
 · rw [if_pos h2]
   split
   · exact ⟨rfl, rfl, h⟩
   · exact ⟨rfl, rfl, her⟩
 rw [if_neg h2]
 by_cases h3 : e.kind = 3
 · rw [if_pos h3]
   split
   · rename_i hc
     exact ⟨rfl, rfl, by show (x.mails ++ [x.mailAt e.k]).length ≤ 600; rw [List.length_append]; simp; omega⟩
   · exact ⟨rfl, rfl, h⟩
 rw [if_neg h3]
 by_cases h4 : e.kind = 4
 · rw [if_pos h4]
   split
   · exact ⟨rfl, rfl, took_len h _ _⟩
   · exact ⟨rfl, rfl, h⟩
 rw [if_neg h4]
 by_cases h5 : e.kind = 5
 · rw [if_pos h5]
   exact ⟨rfl, rfl, h⟩
 rw [if_neg h5]
 by_cases h6 : e.kind = 6
 · rw [if_pos h6]
   exact ⟨rfl, rfl, h⟩
 rw [if_neg h6]
 by_cases h7 : e.kind = 7
 · rw [if_pos h7]
   exact ⟨rfl, rfl, h⟩
 rw [if_neg h7]
 by_cases h8 : e.kind = 8
 · rw [if_pos h8]
   obtain ⟨a, b, c⟩ := ticks_len (RS.dr e.draw) x.n 0 x h
   obtain ⟨d, e', f⟩ := flow_len (RS.dr e.draw) 200 0 _ c
   exact ⟨d.trans a, e'.trans b, f⟩
 rw [if_neg h8]
 exact ⟨rfl, rfl, h⟩
theorem happens_w (own : Own) (a : Nat) (p g : Nat → Nat) (x : RS.W) (v : Wv) (w : World) (h : WdAt own w a p g x v) (e : REv) (dp : Option Addr) (dc : Nat) (hdt : RdB w (.slice dp e.data.length dc) e.data) (hdl : e.data.length ≤ 1000) (hd : e.draw < 2 ^ 64) (B : Nat) (F : RS.Bf x B) (hB : B + 210 ≤ 80000) (hT : x.T ≤ 20) (hm6 : x.mails.length ≤ 600) :
 Calls Try.prog 52 #[.pointer (some ⟨a, 0, none⟩), .agg #[.int .i64 e.kind, .int .i64 e.node, .int .i64 e.n, .slice dp e.data.length dc, .int .u64 (e.draw : Int)]] w fun r w' => ∃ ev : RS.Ev, ev.i < x.n ∧ (x.mails ≠ [] → ev.k < x.mails.length) ∧ r = .returned (.bool true) ∧ Wev own w a (x.event ev) w' := by
 have hn := F.full.small.1
 have hi : e.node % 18446744073709551616 % (x.n : Int) = ((e.node % 18446744073709551616 % (x.n : Int)).toNat : Int) := by have := Int.emod_nonneg (e.node % 18446744073709551616) (show (x.n : Int) ≠ 0 by omega); omega
 have hk : x.mails ≠ [] → ((e.n % 18446744073709551616 % (x.mails.length : Int)).toNat : Int) = e.n % 18446744073709551616 % (x.mails.length : Int) := fun hne => by
  have : x.mails.length ≠ 0 := fun e => hne (List.eq_nil_of_length_eq_zero e)
  have := Int.emod_nonneg (e.n % 18446744073709551616) (show (x.mails.length : Int) ≠ 0 by omega); omega
 have hi2 : (e.node % 18446744073709551616 % (x.n : Int)).toNat < x.n := by have := Int.emod_lt_of_pos (e.node % 18446744073709551616) (show (0 : Int) < (x.n : Int) by omega); omega
 have hk2 : x.mails ≠ [] → (e.n % 18446744073709551616 % (x.mails.length : Int)).toNat < x.mails.length := fun hne => by
  have : x.mails.length ≠ 0 := fun e => hne (List.eq_nil_of_length_eq_zero e)
  have := Int.emod_lt_of_pos (e.n % 18446744073709551616) (show (0 : Int) < (x.mails.length : Int) by omega); omega
 generalize (e.node % 18446744073709551616 % (x.n : Int)).toNat = i at *
 generalize (e.n % 18446744073709551616 % (x.mails.length : Int)).toNat = k at *
 exact (happens_all_w own a p g x v w h e.kind e.node e.n dp e.data.length dc e.data hdt hdl e.draw hd B F hB hT _ hi.symm _ hk hm6).mono fun r w' hr => ⟨⟨e.kind, _, _, e.data, e.draw⟩, hi2, hk2, hr⟩
theorem REvAt.rangeAt {w : World} {b off : Nat} {e : REv} (h : REvAt w b off e) : ∃ p c, w.rangeAt b off [.int .i64 e.kind, .int .i64 e.node, .int .i64 e.n, .slice p e.data.length c, .int .u64 (e.draw : Int)] ∧ RdB w (.slice p e.data.length c) e.data := by
 obtain ⟨p, c, h3, h4⟩ := h.k3
 refine ⟨p, c, fun j u hu => ?_, h4⟩
 match j, hu with
 | 0, hu => cases hu; exact h.k0
 | 1, hu => cases hu; exact h.k1
 | 2, hu => cases hu; exact h.k2
 | 3, hu => cases hu; exact h3
 | 4, hu => cases hu; exact h.k4
set_option maxRecDepth 100000 in
set_option maxHeartbeats 4000000 in
theorem safe_no_w (n t : Int) (p : Option Addr) (c : Nat) (ls : List REv) (w : World) (h : REvs w p ls) (hl : ls.length ≤ 9223372036854775807) (hbad : n < 1 ∨ 7 < n ∨ t < 1 ∨ 20 < t ∨ evsOk ls 150 = false) :
 Calls Try.prog 11 #[.int .i64 n, .int .i64 t, .slice p ls.length c] w fun e w' => e = .returned (.bool true) ∧ Below w.heap.size w w' := by
 have Hev := zh (events_w p c ls 150 w h hl)
 clear h hl
 by_cases c1 : n < 1
 · clear hbad
   have d1 : decide (n < 1) = true := by simpa using c1
   go_enter Try.func11, Try.ntmps11
   go_wp2_with (go_at_call 50; refine (known_w _).mono ?_; rintro e w9 ⟨rfl, hB⟩; have HB9 := zh hB; clear hB)
   go_ret
   exact ⟨rfl, HB9.out⟩
 have d1 : decide (n < 1) = false := by simpa using c1
 by_cases c2 : 7 < n
 · clear hbad c1
   have d2 : decide (7 < n) = true := by simpa using c2
   go_enter Try.func11, Try.ntmps11
   go_wp2_with (go_at_call 50; refine (known_w _).mono ?_; rintro e w9 ⟨rfl, hB⟩; have HB9 := zh hB; clear hB)
   go_ret
   exact ⟨rfl, HB9.out⟩
 have d2 : decide (7 < n) = false := by simpa using c2
 by_cases c3 : t < 1
 · clear hbad c1 c2
   have d3 : decide (t < 1) = true := by simpa using c3
   go_enter Try.func11, Try.ntmps11
   go_wp2_with (go_at_call 50; refine (known_w _).mono ?_; rintro e w9 ⟨rfl, hB⟩; have HB9 := zh hB; clear hB)
   go_ret
   exact ⟨rfl, HB9.out⟩
 have d3 : decide (t < 1) = false := by simpa using c3
 by_cases c4 : 20 < t
 · clear hbad c1 c2 c3
   have d4 : decide (20 < t) = true := by simpa using c4
   go_enter Try.func11, Try.ntmps11
   go_wp2_with (go_at_call 50; refine (known_w _).mono ?_; rintro e w9 ⟨rfl, hB⟩; have HB9 := zh hB; clear hB)
   go_ret
   exact ⟨rfl, HB9.out⟩
 have d4 : decide (20 < t) = false := by simpa using c4
 have Hok := zh (show evsOk ls 150 = false by rcases hbad with e | e | e | e | e <;> first | exact e | exact absurd e (by assumption))
 clear hbad c1 c2 c3 c4
 go_enter Try.func11, Try.ntmps11
 go_wp2_with (first
  | (go_at_call 50; refine (known_w _).mono ?_; rintro e w9 ⟨rfl, hB⟩; have HB9 := zh hB; clear hB)
  | (go_at_call 49; refine (Hev.out).mono ?_; rintro e w1 ⟨rfl, hB⟩; have HB1 := zh hB; rw [Hok.out]; clear hB))
 go_ret
 exact ⟨rfl, HB1.out.trans (HB9.out.mono HB1.out.size)⟩
set_option maxRecDepth 100000 in
set_option maxHeartbeats 4000000 in
theorem safe_yes_w (n t : Nat) (p : Option Addr) (c : Nat) (ls : List REv) (w : World) (h : REvs w p ls) (hl : ls.length ≤ 9223372036854775807) (hdr : ∀ e ∈ ls, e.draw < 2 ^ 64) (hn1 : 1 ≤ n) (hn7 : n ≤ 7) (ht1 : 1 ≤ t) (ht2 : t ≤ 20) (hok : evsOk ls 150 = true) :
 Calls Try.prog 11 #[.int .i64 (n : Int), .int .i64 (t : Int), .slice p ls.length c] w fun e w' => e = .returned (.bool true) ∧ Below w.heap.size w w' := by
 have Hev := zh (events_w p c ls 150 w h hl)
 have hok2 : ls.length ≤ 150 ∧ ∀ e ∈ ls, e.data.length ≤ 1000 := by
  unfold evsOk at hok
  rw [Bool.and_eq_true] at hok
  refine ⟨by have := of_decide_eq_true hok.1; omega, fun e he => of_decide_eq_true (List.all_eq_true.1 hok.2 e he)⟩
 have Hok := zh hok
 have H := zh h
 have Hls := zh (And.intro hok2.2 hdr)
 have hl150 := hok2.1
 have d1 : decide ((n : Int) < 1) = false := by simp; omega
 have d2 : decide ((7 : Int) < (n : Int)) = false := by simp; omega
 have d3 : decide ((t : Int) < 1) = false := by simp; omega
 have d4 : decide ((20 : Int) < (t : Int)) = false := by simp; omega
 have f1 : decide (n < 1) = false := by simp; omega
 have f2 : decide (7 < n) = false := by simp; omega
 have f3 : decide (t < 1) = false := by simp; omega
 have f4 : decide (20 < t) = false := by simp; omega
 clear h hl hdr hok hok2
 go_enter Try.func11, Try.ntmps11
 go_upto_region 6 with (first
  | (go_at_call 49; refine (Hev.out).mono ?_; rintro e w1 ⟨rfl, hB⟩; have HB1 := zh hB; rw [Hok.out]; have Hmd := zh (made_w (fun _ => 9) n t hn1 hn7 ht1 ht2 w1); clear hB)
  | (go_at_call 51; refine (Hmd.out).mono ?_; rintro e w2 ⟨a, own2, p2, g2, v2, rfl, h2, m2⟩; have HD2 := zh h2; have HM2 := zh m2; clear h2 m2))
 have HF2 := zh (RS.first_bf n t hn1 hn7 ht1)
 clear Hev Hmd Hok d1 d2 d3 d4 f1 f2 f3 f4
 go_wp2
 go_loopw [9] (fun ix wr => ∃ (j : Nat) (own' : Own) (p' g' : Nat → Nat) (v' : Wv) (X : RS.W), ix = .int .i64 (j : Int) ∧ j ≤ ls.length ∧ X.n = n ∧ X.T = t ∧ X.mails.length ≤ 600 ∧ Hid (RS.Bf X (207 * j)) ∧ Hid (WdAt own' wr a p' g' X v') ∧ Hid (Mv (fun l => l ≠ 9) (fun _ => 9) w1 own' wr)) (fun ix _ => ls.length - (intOf ix).toNat)
 case atStart => exact ⟨0, own2, p2, g2, v2, RS.W.first n t, rfl, Nat.zero_le _, rfl, rfl, Nat.zero_le _, HF2, HD2, HM2⟩
 case round =>
  obtain ⟨j, ownj, pj, gj, vj, X, rfl, hk, hXn, hXT, hXl, HFj, HDj, HMj⟩ := hrel
  clear HF2 HD2 HM2
  have HBj := zh (HMj.out.low (n := w1.heap.size) (fun _ _ => rfl) (Nat.le_refl _) (fun e => e rfl)).1
  by_cases hlt : j < ls.length
  · obtain ⟨b, off, rfl, hat⟩ := (H.out.keeps (HB1.out.block)) j hlt
    obtain ⟨dp, dc, hrg, hrd⟩ := (hat.keeps (HBj.out.block)).rangeAt
    have Hrg := zh hrg
    have hb1 := Hls.out.1 _ (List.getElem_mem hlt)
    have hb2 := Hls.out.2 _ (List.getElem_mem hlt)
    generalize ls[j] = ev at *
    have Hha := zh (happens_w ownj a pj gj X vj wr HDj.out ev dp dc hrd hb1 hb2 (207 * j) HFj.out (by omega) (by omega) hXl)
    have HXX := zh (And.intro hXn (And.intro hXT hXl))
    have d1 : decide (j < ls.length) = true := by simpa using hlt
    have d2 : decide ((j : Int) < (ls.length : Int)) = true := by simpa using hlt
    have hk0 : (0 : Int) ≤ (j : Int) := by omega
    have hki : (j : Int) < (ls.length : Int) := by omega
    clear hat hrg hrd hb1 hb2 hXn hXT hXl
    go_wp2_with (first
     | (refine wpList_load_mid rfl 82 (.tmp 47) rfl _ _ rfl [.int .i64 ev.kind, .int .i64 ev.node, .int .i64 ev.n, .slice dp ev.data.length dc, .int .u64 (ev.draw : Int)] _ Hrg.out Try.underlying82 rfl (show _ = some 5 by kernel_rfl) ?_)
     | (go_at_call 52; refine (Hha.out).mono ?_; rintro e w3 ⟨ev9, hi9, hk9, rfl, own3, p3, g3, v3, h3, m3⟩; have HD3 := zh h3; have HM3 := zh (HMj.out.trans m3); have Hlen := zh (event_len HXX.out.2.2 ev9); have Htu := zh (HFj.out.turn (by omega) ev9 hi9 hk9); have Hsf := zh (safe_w own3 a p3 g3 (X.event ev9) v3 w3 h3 (207 * j + 207) (HFj.out.event (by omega) ev9 hi9 hk9) (by omega) (by rw [Hlen.out.2.1, HXX.out.2.1]; exact ht2)); clear h3 m3 hi9 hk9)
     | (go_at_call 53; refine (Hsf.out).mono ?_; rintro e w4 ⟨rfl, own4, p4, g4, v4, h4, m4⟩; have HD4 := zh h4; have HM4 := zh (HM3.out.trans m4); clear h4 m4))
    go_roundw
    case rel =>
     have hs := RS.looks_same (X.event ev9).n 0 (X.event ev9)
     refine ⟨j + 1, own4, p4, g4, v4, X.turn ev9, by go_num, by omega, hs.2.2.1.trans (Hlen.out.1.trans HXX.out.1), hs.2.2.2.1.trans (Hlen.out.2.1.trans HXX.out.2.1), by rw [show (X.turn ev9).mails = (X.event ev9).mails from hs.2.1]; exact Hlen.out.2.2, zh (by rw [Nat.mul_add, Nat.mul_one]; exact Htu.out.1), HD4, HM4⟩
    case measure => simp [intOf]; omega
  · have d1 : decide (j < ls.length) = false := by simpa using hlt
    have d2 : decide ((j : Int) < (ls.length : Int)) = false := by simp; omega
    clear hXn hXT hXl
    go_wp2_with (go_at_call 50; refine (known_w _).mono ?_; rintro e w9 ⟨rfl, hB⟩; have HB9 := zh hB; clear hB)
    go_ret
    exact ⟨rfl, HB1.out.trans ((HBj.out.trans (HB9.out.mono HBj.out.size)).mono HB1.out.size)⟩
theorem safe_law_w (n t : Int) (p : Option Addr) (c : Nat) (ls : List REv) (w : World) (h : REvs w p ls) (hl : ls.length ≤ 9223372036854775807) (hdr : ∀ e ∈ ls, e.draw < 2 ^ 64) :
 Calls Try.prog 11 #[.int .i64 n, .int .i64 t, .slice p ls.length c] w fun e w' => e = .returned (.bool true) ∧ Below w.heap.size w w' := by
 by_cases hbad : n < 1 ∨ 7 < n ∨ t < 1 ∨ 20 < t ∨ evsOk ls 150 = false
 · exact safe_no_w n t p c ls w h hl hbad
 · have b1 : ¬ n < 1 := fun e => hbad (.inl e)
   have b2 : ¬ 7 < n := fun e => hbad (.inr (.inl e))
   have b3 : ¬ t < 1 := fun e => hbad (.inr (.inr (.inl e)))
   have b4 : ¬ 20 < t := fun e => hbad (.inr (.inr (.inr (.inl e))))
   have b5 : evsOk ls 150 = true := by
    cases e : evsOk ls 150
    · exact absurd (.inr (.inr (.inr (.inr e)))) hbad
    · rfl
   obtain ⟨N, rfl⟩ : ∃ N : Nat, n = (N : Int) := ⟨n.toNat, by omega⟩
   obtain ⟨T, rfl⟩ : ∃ N : Nat, t = (N : Int) := ⟨t.toNat, by omega⟩
   exact safe_yes_w N T p c ls w h hl hdr (by omega) (by omega) (by omega) (by omega) b5
end Go.Proofs.Yteellfgiejnigaa
