/- A command with the fields of its kind alone: the program's bare. -/
import Derived.Test.YtoflehlkacofjaaQfK3
import Derived.BigRegion
import Derived.Deep.Cut
import Derived.DeepKeys
import Derived.Great.BuildSlice
namespace Go.Proofs.Ytoflehlkacofjaa
open Go.ChangeShapes Go.WideShapes Go.ChangeAt Go.RowKit
set_option linter.unusedVariables false
/-- A command's cells. -/
def cmc (k a n u : Nat) (m : Int) (s : Sp) (o b : Bool) (z : Nat) (p q : Int) : Array Value := #[.int .u8 (k : Int), .int .u32 (a : Int), .int .u32 (n : Int), .int .u64 (u : Int), .int .i64 m, .int .u32 s.number, .int .u8 s.route, .int .i64 s.tick, .int .i64 s.lot, .int .i64 s.band, .int .i64 s.limit,
  .int .i64 (s.sh 0), .int .i64 (s.sh 1), .int .i64 (s.sh 2), .int .i64 (s.sh 3), .int .i64 (s.sh 4), .int .i64 (s.sh 5), .int .i64 (s.sh 6), .int .i64 (s.sh 7), .int .i64 (s.sh 8), .int .i64 (s.sh 9), .int .i64 (s.sh 10), .int .i64 (s.sh 11), .int .i64 (s.sh 12), .int .i64 (s.sh 13), .int .i64 (s.sh 14), .int .i64 (s.sh 15),
  .int .i64 s.credit, .int .u32 s.last, .int .i64 s.first, .bool o, .bool b, .int .u8 (z : Int), .int .i64 p, .int .i64 q]
def zC : Array Value := cmc 0 0 0 0 0 Sp.zero false false 0 0 0
def kC (k : Nat) : Array Value := cmc k 0 0 0 0 Sp.zero false false 0 0 0
theorem cmc_size (k a n u : Nat) (m : Int) (s : Sp) (o b : Bool) (z : Nat) (p q : Int) : (cmc k a n u m s o b z p q).size = 35 := rfl
theorem cmc_one (k a n u : Nat) (m : Int) (s : Sp) (o b : Bool) (z : Nat) (p q : Int) : (cmc k a n u m s o b z p q).all (·.oneCell') = true := by unfold cmc; simp [Value.oneCell']
theorem hz30 : ((Try.prog.info? 30).bind (·.zero)).map Value.cells = some zC := by kernel_rfl
theorem built30 (k : Nat) : Try.prog.built 30 [(0, .int .u8 (k : Int))] = some (kC k) := by kernel_rfl
theorem alloc_setRow (w : World) (cs ds : Array Value) (t : TypeId) : (w.alloc (.cells cs t)).setRow w.heap.size ds = w.alloc (.cells ds t) := by
  have hb : (w.alloc (.cells cs t)).heap[w.heap.size]? = some (.cells cs t) := heap_alloc_new w _
  unfold World.setRow
  simp only [World.alloc]
  congr 1
  apply Array.ext_getElem?
  intro i
  simp only [Array.getElem?_modify, Array.getElem?_push]
  split
  · rename_i h; subst h; simp
  · rename_i h
    split
    · rename_i h2; exact absurd h2.symm h
    · rfl
theorem exec_build30 {o : Oper} {e : Operand → Value} {W : World} (k : Nat) (x : Operand) (ho : o.op = .build 30 #[(0, x)]) (hx : e x = .int .u8 (k : Int)) : (execOp e o).run Try.prog W = .ok (.value (.agg (kC k))) W := by
  have h := run_build (P := Try.prog) W 30 #[(0, .int .u8 (k : Int))] (kC k) (built30 k)
  unfold execOp
  simp only [ho]
  simp [hx, h]
/-- The command that is looked at, the result, the bare one. -/
structure NC (w W : World) (cx cs : Array Value) : Prop where
  x : W.heap[w.heap.size]? = some (.cells cx 30)
  rz : W.heap[w.heap.size + 1]? = some (.cells zC 30)
  y : W.heap[w.heap.size + 1 + 1]? = some (.cells cs 30)
  below : Below w.heap.size w W
section
variable {w W W' : World} {cx cs : Array Value}
theorem NC.put (h : NC w W cx cs) (i : Nat) (v : Value) : NC w (W.setCell ⟨w.heap.size + 1 + 1, i, none⟩ v) cx (cs.setIfInBounds i v) := by
  have hg := Lib.grownBy_setCell W (w.heap.size + 1 + 1) i v
  refine ⟨(hg.block _ (Array.getElem?_eq_some_iff.1 h.x).1 (by simp; omega)).trans h.x, (hg.block _ (Array.getElem?_eq_some_iff.1 h.rz).1 (by simp)).trans h.rz, ?_, h.below.grown hg h.below.size (fun k e => by cases e; omega)⟩
  have hy := h.y
  simp only [World.setCell, Array.getElem?_modify, hy, if_true, Option.map_some]
  rfl
theorem NC.row (h : NC w W cx cs) (ds : Array Value) : NC w (W.setRow (w.heap.size + 1 + 1) ds) cx ds := by
  refine ⟨(setRow_other _ _ _ _ (by omega)).trans h.x, (setRow_other _ _ _ _ (by omega)).trans h.rz, setRow_heap _ _ _ _ _ _ h.y, ?_⟩
  have h1 : Below w.heap.size W (W.setRow (w.heap.size + 1 + 1) ds) := ⟨rfl, rfl, rfl, by simp [World.setRow], fun k hk => setRow_other _ _ _ _ (by omega)⟩
  exact h.below.trans h1
theorem NC.xat (h : NC w W cx cs) (i : Nat) : W.cell? ⟨w.heap.size, i, none⟩ = cx[i]? := cell_of_row _ _ _ _ _ _ h.x
theorem NC.yat (h : NC w W cx cs) (i : Nat) : W.cell? ⟨w.heap.size + 1 + 1, i, none⟩ = cs[i]? := cell_of_row _ _ _ _ _ _ h.y
theorem NC.thaw (h : NC w W cx cs) (i : Nat) : W.frozen? ⟨w.heap.size + 1 + 1, i, none⟩ = false := by
  have hy := h.y
  simp [World.frozen?, hy]
theorem NC.end_ (h : NC w W cx cs) (ds : Array Value) : Below w.heap.size w (W.setRow (w.heap.size + 1) ds) ∧ (W.setRow (w.heap.size + 1) ds).heap[w.heap.size + 1]? = some (.cells ds 30) := by
  have h1 : Below w.heap.size W (W.setRow (w.heap.size + 1) ds) := ⟨rfl, rfl, rfl, by simp [World.setRow], fun k hk => setRow_other _ _ _ _ (by omega)⟩
  exact ⟨h.below.trans h1, setRow_heap _ _ _ _ _ _ h.rz⟩
end
theorem NC.drew {w W : World} {cx cs : Array Value} (h : NC w W cx cs) : NC w W.drew cx cs := ⟨h.x, h.rz, h.y, h.below.drew⟩
/-- A row of values laid into cells, one behind the other. -/
def putsA (cs : Array Value) (i : Nat) : List Value → Array Value
  | [] => cs
  | v :: vs => putsA (cs.setIfInBounds i v) (i + 1) vs
theorem putsA_list : ∀ (vs : List Value) (cs : Array Value) (i : Nat), i + vs.length ≤ cs.size → (putsA cs i vs).toList = cs.toList.take i ++ (vs ++ cs.toList.drop (i + vs.length))
  | [], cs, i, _ => by simp [putsA]
  | v :: vs, cs, i, h => by
    have hl : i < cs.toList.length := by simp at h ⊢; omega
    rw [putsA, putsA_list vs _ (i + 1) (by simp at h ⊢; omega), Array.toList_setIfInBounds]
    rw [List.drop_set_of_lt (by omega), List.take_succ_eq_append_getElem (by simpa using hl), List.take_set_of_le (Nat.le_refl _)]
    simp only [List.getElem_set_self, List.append_assoc, List.cons_append, List.nil_append, List.length_cons]
    rw [show i + 1 + vs.length = i + (vs.length + 1) by omega]
theorem NC.puts {w : World} {cx : Array Value} : ∀ (vs : List Value) (i : Nat) {W : World} {cs : Array Value}, NC w W cx cs → NC w (W.setCells (w.heap.size + 1 + 1) i vs) cx (putsA cs i vs)
  | [], _, _, _, h => h
  | v :: vs, i, _, _, h => NC.puts vs (i + 1) (h.put i v)
theorem NC.there {w W : World} {cx cs : Array Value} (h : NC w W cx cs) (i n : Nat) (hi : i + n ≤ cs.size) : W.there (w.heap.size + 1 + 1) i n := fun j hj => by
  have hc := h.yat (i + j)
  rw [Array.getElem?_eq_getElem (by omega)] at hc
  exact ⟨by rw [hc]; rfl, h.thaw (i + j)⟩
theorem NC.range {w W : World} {cx cs : Array Value} {s : Sp} (h : NC w W cx cs) (hs : ∀ j v, s.cells.toList[j]? = some v → cx[5 + j]? = some v) : W.rangeAt w.heap.size 5 s.cells.toList := fun j v hv => by
  rw [h.xat]; exact hs j v hv
theorem cmc_spec (k a n u : Nat) (m : Int) (s : Sp) (o b : Bool) (z : Nat) (p q : Int) (j : Nat) (v : Value) (h : s.cells.toList[j]? = some v) : (cmc k a n u m s o b z p q)[5 + j]? = some v := by
  have hj : j < 25 := (List.getElem?_eq_some_iff.1 h).1
  rw [← h]
  have hw : j = 0 ∨ j = 1 ∨ j = 2 ∨ j = 3 ∨ j = 4 ∨ j = 5 ∨ j = 6 ∨ j = 7 ∨ j = 8 ∨ j = 9 ∨ j = 10 ∨ j = 11 ∨ j = 12 ∨ j = 13 ∨ j = 14 ∨ j = 15 ∨ j = 16 ∨ j = 17 ∨ j = 18 ∨ j = 19 ∨ j = 20 ∨ j = 21 ∨ j = 22 ∨ j = 23 ∨ j = 24 := by omega
  rcases hw with rfl | rfl | rfl | rfl | rfl | rfl | rfl | rfl | rfl | rfl | rfl | rfl | rfl | rfl | rfl | rfl | rfl | rfl | rfl | rfl | rfl | rfl | rfl | rfl | rfl <;> rfl
theorem arr_of_list {xs ys : Array Value} (h : xs.toList = ys.toList) : xs = ys := by cases xs; cases ys; simpa using h
theorem put3 (s : Sp) : putsA (kC 3) 5 s.cells.toList = cmc 3 0 0 0 0 s false false 0 0 0 := arr_of_list (by rw [putsA_list _ _ _ (show 5 + s.cells.toList.length ≤ 35 by rw [show s.cells.toList.length = 25 from rfl]; decide)]; rfl)
theorem put5' (a n u : Nat) (m : Int) (s : Sp) (o b : Bool) (z : Nat) (p q : Int) : putsA (((cmc 5 a n u m s o b z p q).setIfInBounds 3 (.int .u64 0)).setIfInBounds 4 (.int .i64 0)) 5 Sp.zero.cells.toList = cmc 5 a n 0 0 Sp.zero o b z p q := arr_of_list (by rw [putsA_list _ _ _ (by rw [Array.size_setIfInBounds, Array.size_setIfInBounds, cmc_size, show Sp.zero.cells.toList.length = 25 from rfl]; decide)]; rfl)
theorem put5 (a n u : Nat) (m : Int) (s : Sp) (o b : Bool) (z : Nat) (p q : Int) : (putsA (((cmc 5 a n u m s o b z p q).setIfInBounds 3 (.int .u64 0)).setIfInBounds 4 (.int .i64 0)) 5 Sp.zero.cells.toList).setIfInBounds 30 (.bool false) = cmc 5 a n 0 0 Sp.zero false b z p q := by rw [put5']; rfl
theorem put30 (a n u : Nat) (m : Int) (s : Sp) (o b : Bool) (z : Nat) (p q : Int) : (putsA (((cmc 5 a n u m s o b z p q).setIfInBounds 3 (.int .u64 0)).setIfInBounds 4 (.int .i64 0)) 5 Sp.zero.cells.toList)[30]? = some (.bool o) := by rw [put5']; rfl
theorem exec_build27 {o : Oper} {e : Operand → Value} {W : World} (ho : o.op = .build 27 #[]) : (execOp e o).run Try.prog W = .ok (.value (.agg Sp.zero.cells)) W := by
  have h := run_build (P := Try.prog) W 27 #[] Sp.zero.cells (by kernel_rfl)
  unfold execOp
  simp only [ho]
  simp [h]
theorem NC.start (w : World) (cx cs : Array Value) : NC w (((w.alloc (.cells cx 30)).alloc (.cells zC 30)).alloc (.cells cs 30)) cx cs := by
  have hB : Below w.heap.size w (((w.alloc (.cells cx 30)).alloc (.cells zC 30)).alloc (.cells cs 30)) := (((Below.refl _ _).alloc (Nat.le_refl _) _).alloc (by simp) _).alloc (by simp; omega) _
  refine ⟨?_, ?_, ?_, hB⟩
  · rw [Below.heap_alloc _ _ _ (by simp; omega), Below.heap_alloc _ _ _ (by simp)]; exact heap_alloc_new w _
  · rw [Below.heap_alloc _ _ _ (by simp)]
    have := heap_alloc_new (w.alloc (.cells cx 30)) (.cells zC 30)
    rwa [heap_alloc_size] at this
  · have := heap_alloc_new ((w.alloc (.cells cx 30)).alloc (.cells zC 30)) (.cells cs 30)
    rwa [heap_alloc_size, heap_alloc_size] at this
set_option maxRecDepth 100000 in
set_option maxHeartbeats 6400000 in
theorem bare_1_w (a n u : Nat) (m : Int) (s : Sp) (o b : Bool) (z : Nat) (p q : Int) (w : World) (cx : Array Value) (hcx : cx = cmc 1 a n u m s o b z p q) :
    Calls Try.prog 53 #[.agg cx] w fun e w' => e = .returned (.agg (cmc 1 a 0 0 m Sp.zero false false 0 0 0)) ∧ Below w.heap.size w w' := by
  obtain ⟨kc, hkc⟩ : ∃ kc, kC 1 = kc := ⟨_, rfl⟩
  have HN := Lib.hid (NC.start w cx kc)
  have c0 : (w.alloc (.cells cx 30)).cell? ⟨w.heap.size, 0, none⟩ = some (.int .u8 1) := by rw [cell_of_row _ _ _ _ _ _ (heap_alloc_new w _), hcx]; rfl
  have c0' : ((w.alloc (.cells cx 30)).alloc (.cells zC 30)).cell? ⟨w.heap.size, 0, none⟩ = some (.int .u8 1) := by rw [cell_of_row _ _ _ _ _ _ ((Below.heap_alloc _ _ _ (by simp)).trans (heap_alloc_new w _)), hcx]; rfl
  obtain ⟨W2, hW2⟩ : ∃ W2, ((w.alloc (.cells cx 30)).alloc (.cells zC 30)).alloc (.cells kc 30) = W2 := ⟨_, rfl⟩
  rw [hW2] at HN
  have HW2 := Lib.hid hW2
  clear hW2
  have x0 : W2.cell? ⟨w.heap.size, 0, none⟩ = some (.int .u8 1) := (HN.out.xat 0).trans (by rw [hcx]; rfl)
  have x1 : W2.cell? ⟨w.heap.size, 1, none⟩ = some (.int .u32 (a : Int)) := (HN.out.xat 1).trans (by rw [hcx]; rfl)
  have y1 := (HN.out.yat 1).trans (show _ = some (Value.int .u32 0) by rw [← hkc]; rfl)
  have z1 := HN.out.thaw 1
  have x4 : W2.cell? ⟨w.heap.size, 4, none⟩ = some (.int .i64 m) := (HN.out.xat 4).trans (by rw [hcx]; rfl)
  have y4 := (HN.out.yat 4).trans (show _ = some (Value.int .i64 0) by rw [← hkc]; rfl)
  have z4 := HN.out.thaw 4
  have HZ3 := Lib.hid (show (((w.alloc (.cells cx 30)).alloc (.cells zC 30)).alloc (.cells zC 30)).heap[w.heap.size + 1 + 1]? = some (.cells zC 30) from (NC.start w cx zC).y)
  have HR := Lib.hid (show (((w.alloc (.cells cx 30)).alloc (.cells zC 30)).alloc (.cells zC 30)).setRow (w.heap.size + 1 + 1) kc = W2 from by
    have h := alloc_setRow ((w.alloc (.cells cx 30)).alloc (.cells zC 30)) zC kc 30
    rw [heap_alloc_size, heap_alloc_size] at h
    exact h.trans HW2.out)
  have HKC := Lib.hid (show (Try.prog.info? 30).map (·.size) = some kc.size ∧ zC.size = kc.size ∧ kc.all (·.oneCell') = true from by rw [← hkc]; exact ⟨by kernel_rfl, rfl, cmc_one ..⟩)
  have Hkc := Lib.hid hkc
  have Hcx := Lib.hid hcx
  clear hcx hkc
  go_enter Try.func53, Try.ntmps53
  go_upto_region 1 with (refine wpList_alloc_zero rfl 30 rfl _ hz30 ?_)
  apply RegT.wp_region_F (fun x y => x = y) (fun _ => rfl) (fun _ _ _ h k => h.trans k)
  · apply RegT.T_pure (v := .pointer (some ⟨w.heap.size, 0, none⟩)) rfl rfl rfl
    · intro W hR; go_simp
    simp only [List.set_cons_succ, List.set_cons_zero, Nat.reduceAdd]
    apply RegT.T_pure (v := .int .u8 1) rfl rfl rfl
    · intro W hR; subst hR; go_simp
    simp only [List.set_cons_succ, List.set_cons_zero, Nat.reduceAdd]
    apply RegT.T_pure (v := .agg kc) rfl rfl rfl
    · intro W hR; rw [← Hkc.out]; exact exec_build30 1 (.tmp 5) rfl rfl
    simp only [List.set_cons_succ, List.set_cons_zero, Nat.reduceAdd]
    refine RegT.T_tail (fun W hR hf => ?_)
    subst hR
    clear hf
    simp only [List.drop_succ_cons, List.drop_zero]
    refine wpList_alloc_zero rfl 30 rfl _ hz30 ?_
    refine wpList_store_rowTo rfl 30 (.tmp 3) (.tmp 6) rfl rfl (w.heap.size + 1 + 1) kc (by simp [Act.eval, Act.put]) rfl 30 zC HZ3.out HKC.out.1 HKC.out.2.1 HKC.out.2.2 ?_
    rw [HR.out]
    clear c0 c0'
    go_wp2
    go_region
    have HNe := Lib.hid (show NC w (((W2.setCell ⟨w.heap.size + 1 + 1, 1, none⟩ (.int .u32 (a : Int))).setCell ⟨w.heap.size + 1 + 1, 4, none⟩ (.int .i64 m)).drew) cx ((kc.setIfInBounds 1 (.int .u32 (a : Int))).setIfInBounds 4 (.int .i64 m)) from ((HN.out.put 1 _).put 4 _).drew)
    obtain ⟨ce, hce⟩ : ∃ ce, (kc.setIfInBounds 1 (.int .u32 (a : Int))).setIfInBounds 4 (.int .i64 m) = ce := ⟨_, rfl⟩
    rw [hce] at HNe
    have hcs : ce = cmc 1 a 0 0 m Sp.zero false false 0 0 0 := by rw [← hce, ← Hkc.out]; rfl
    have HCS := Lib.hid hcs
    have hsz : ce.size = 35 := by rw [hcs]; rfl
    have HO := Lib.hid (show ce.all (·.oneCell') = true from by rw [hcs]; exact cmc_one ..)
    clear hce hcs
    go_wp2_with (first
      | (refine wpList_load_row rfl 30 (.tmp 3) rfl _ rfl _ _ _ _ HNe.out.y Try.underlying30 rfl (show _ = some ce.size by rw [hsz]; kernel_rfl) ?_)
      | (refine wpList_store_rowTo rfl 30 (.tmp 2) (.tmp 112) rfl rfl _ ce rfl rfl 30 zC HNe.out.rz (show _ = some ce.size by rw [hsz]; kernel_rfl) (by rw [hsz]; rfl) HO.out ?_))
    obtain ⟨hend, hres⟩ := HNe.out.end_ ce
    refine bodyPost_ret (v := .agg ce) (results_cell_row rfl _ _ (w.heap.size + 1) 30 _ _ _ rfl hres Try.underlying30 rfl (show _ = some ce.size by rw [hsz]; kernel_rfl)) rfl ?_
    exact ⟨by rw [HCS.out], hend⟩
  · rfl
set_option maxRecDepth 100000 in
set_option maxHeartbeats 6400000 in
theorem bare_2_w (a n u : Nat) (m : Int) (s : Sp) (o b : Bool) (z : Nat) (p q : Int) (w : World) (cx : Array Value) (hcx : cx = cmc 2 a n u m s o b z p q) :
    Calls Try.prog 53 #[.agg cx] w fun e w' => e = .returned (.agg (cmc 2 a 0 0 m Sp.zero false false 0 0 0)) ∧ Below w.heap.size w w' := by
  obtain ⟨kc, hkc⟩ : ∃ kc, kC 2 = kc := ⟨_, rfl⟩
  have HN := Lib.hid (NC.start w cx kc)
  have c0 : (w.alloc (.cells cx 30)).cell? ⟨w.heap.size, 0, none⟩ = some (.int .u8 2) := by rw [cell_of_row _ _ _ _ _ _ (heap_alloc_new w _), hcx]; rfl
  have c0' : ((w.alloc (.cells cx 30)).alloc (.cells zC 30)).cell? ⟨w.heap.size, 0, none⟩ = some (.int .u8 2) := by rw [cell_of_row _ _ _ _ _ _ ((Below.heap_alloc _ _ _ (by simp)).trans (heap_alloc_new w _)), hcx]; rfl
  obtain ⟨W2, hW2⟩ : ∃ W2, ((w.alloc (.cells cx 30)).alloc (.cells zC 30)).alloc (.cells kc 30) = W2 := ⟨_, rfl⟩
  rw [hW2] at HN
  have HW2 := Lib.hid hW2
  clear hW2
  have x0 : W2.cell? ⟨w.heap.size, 0, none⟩ = some (.int .u8 2) := (HN.out.xat 0).trans (by rw [hcx]; rfl)
  have x1 : W2.cell? ⟨w.heap.size, 1, none⟩ = some (.int .u32 (a : Int)) := (HN.out.xat 1).trans (by rw [hcx]; rfl)
  have y1 := (HN.out.yat 1).trans (show _ = some (Value.int .u32 0) by rw [← hkc]; rfl)
  have z1 := HN.out.thaw 1
  have x4 : W2.cell? ⟨w.heap.size, 4, none⟩ = some (.int .i64 m) := (HN.out.xat 4).trans (by rw [hcx]; rfl)
  have y4 := (HN.out.yat 4).trans (show _ = some (Value.int .i64 0) by rw [← hkc]; rfl)
  have z4 := HN.out.thaw 4
  have HZ3 := Lib.hid (show (((w.alloc (.cells cx 30)).alloc (.cells zC 30)).alloc (.cells zC 30)).heap[w.heap.size + 1 + 1]? = some (.cells zC 30) from (NC.start w cx zC).y)
  have HR := Lib.hid (show (((w.alloc (.cells cx 30)).alloc (.cells zC 30)).alloc (.cells zC 30)).setRow (w.heap.size + 1 + 1) kc = W2 from by
    have h := alloc_setRow ((w.alloc (.cells cx 30)).alloc (.cells zC 30)) zC kc 30
    rw [heap_alloc_size, heap_alloc_size] at h
    exact h.trans HW2.out)
  have HKC := Lib.hid (show (Try.prog.info? 30).map (·.size) = some kc.size ∧ zC.size = kc.size ∧ kc.all (·.oneCell') = true from by rw [← hkc]; exact ⟨by kernel_rfl, rfl, cmc_one ..⟩)
  have Hkc := Lib.hid hkc
  have Hcx := Lib.hid hcx
  clear hcx hkc
  go_enter Try.func53, Try.ntmps53
  go_upto_region 1 with (refine wpList_alloc_zero rfl 30 rfl _ hz30 ?_)
  apply RegT.wp_region_F (fun x y => x = y) (fun _ => rfl) (fun _ _ _ h k => h.trans k)
  · apply RegT.T_pure (v := .pointer (some ⟨w.heap.size, 0, none⟩)) rfl rfl rfl
    · intro W hR; go_simp
    simp only [List.set_cons_succ, List.set_cons_zero, Nat.reduceAdd]
    apply RegT.T_pure (v := .int .u8 2) rfl rfl rfl
    · intro W hR; subst hR; go_simp
    simp only [List.set_cons_succ, List.set_cons_zero, Nat.reduceAdd]
    apply RegT.T_pure (v := .agg kc) rfl rfl rfl
    · intro W hR; rw [← Hkc.out]; exact exec_build30 2 (.tmp 5) rfl rfl
    simp only [List.set_cons_succ, List.set_cons_zero, Nat.reduceAdd]
    refine RegT.T_tail (fun W hR hf => ?_)
    subst hR
    clear hf
    simp only [List.drop_succ_cons, List.drop_zero]
    refine wpList_alloc_zero rfl 30 rfl _ hz30 ?_
    refine wpList_store_rowTo rfl 30 (.tmp 3) (.tmp 6) rfl rfl (w.heap.size + 1 + 1) kc (by simp [Act.eval, Act.put]) rfl 30 zC HZ3.out HKC.out.1 HKC.out.2.1 HKC.out.2.2 ?_
    rw [HR.out]
    clear c0 c0'
    go_wp2
    go_region
    have HNe := Lib.hid (show NC w (((W2.setCell ⟨w.heap.size + 1 + 1, 1, none⟩ (.int .u32 (a : Int))).setCell ⟨w.heap.size + 1 + 1, 4, none⟩ (.int .i64 m)).drew) cx ((kc.setIfInBounds 1 (.int .u32 (a : Int))).setIfInBounds 4 (.int .i64 m)) from ((HN.out.put 1 _).put 4 _).drew)
    obtain ⟨ce, hce⟩ : ∃ ce, (kc.setIfInBounds 1 (.int .u32 (a : Int))).setIfInBounds 4 (.int .i64 m) = ce := ⟨_, rfl⟩
    rw [hce] at HNe
    have hcs : ce = cmc 2 a 0 0 m Sp.zero false false 0 0 0 := by rw [← hce, ← Hkc.out]; rfl
    have HCS := Lib.hid hcs
    have hsz : ce.size = 35 := by rw [hcs]; rfl
    have HO := Lib.hid (show ce.all (·.oneCell') = true from by rw [hcs]; exact cmc_one ..)
    clear hce hcs
    go_wp2_with (first
      | (refine wpList_load_row rfl 30 (.tmp 3) rfl _ rfl _ _ _ _ HNe.out.y Try.underlying30 rfl (show _ = some ce.size by rw [hsz]; kernel_rfl) ?_)
      | (refine wpList_store_rowTo rfl 30 (.tmp 2) (.tmp 112) rfl rfl _ ce rfl rfl 30 zC HNe.out.rz (show _ = some ce.size by rw [hsz]; kernel_rfl) (by rw [hsz]; rfl) HO.out ?_))
    obtain ⟨hend, hres⟩ := HNe.out.end_ ce
    refine bodyPost_ret (v := .agg ce) (results_cell_row rfl _ _ (w.heap.size + 1) 30 _ _ _ rfl hres Try.underlying30 rfl (show _ = some ce.size by rw [hsz]; kernel_rfl)) rfl ?_
    exact ⟨by rw [HCS.out], hend⟩
  · rfl
set_option maxRecDepth 100000 in
set_option maxHeartbeats 6400000 in
theorem bare_3_w (a n u : Nat) (m : Int) (s : Sp) (o b : Bool) (z : Nat) (p q : Int) (w : World) (cx : Array Value) (hcx : cx = cmc 3 a n u m s o b z p q) :
    Calls Try.prog 53 #[.agg cx] w fun e w' => e = .returned (.agg (cmc 3 0 0 0 0 s false false 0 0 0)) ∧ Below w.heap.size w w' := by
  obtain ⟨kc, hkc⟩ : ∃ kc, kC 3 = kc := ⟨_, rfl⟩
  have HN := Lib.hid (NC.start w cx kc)
  have c0 : (w.alloc (.cells cx 30)).cell? ⟨w.heap.size, 0, none⟩ = some (.int .u8 3) := by rw [cell_of_row _ _ _ _ _ _ (heap_alloc_new w _), hcx]; rfl
  have c0' : ((w.alloc (.cells cx 30)).alloc (.cells zC 30)).cell? ⟨w.heap.size, 0, none⟩ = some (.int .u8 3) := by rw [cell_of_row _ _ _ _ _ _ ((Below.heap_alloc _ _ _ (by simp)).trans (heap_alloc_new w _)), hcx]; rfl
  obtain ⟨W2, hW2⟩ : ∃ W2, ((w.alloc (.cells cx 30)).alloc (.cells zC 30)).alloc (.cells kc 30) = W2 := ⟨_, rfl⟩
  rw [hW2] at HN
  have HW2 := Lib.hid hW2
  clear hW2
  have x0 : W2.cell? ⟨w.heap.size, 0, none⟩ = some (.int .u8 3) := (HN.out.xat 0).trans (by rw [hcx]; rfl)
  have HZ3 := Lib.hid (show (((w.alloc (.cells cx 30)).alloc (.cells zC 30)).alloc (.cells zC 30)).heap[w.heap.size + 1 + 1]? = some (.cells zC 30) from (NC.start w cx zC).y)
  have HR := Lib.hid (show (((w.alloc (.cells cx 30)).alloc (.cells zC 30)).alloc (.cells zC 30)).setRow (w.heap.size + 1 + 1) kc = W2 from by
    have h := alloc_setRow ((w.alloc (.cells cx 30)).alloc (.cells zC 30)) zC kc 30
    rw [heap_alloc_size, heap_alloc_size] at h
    exact h.trans HW2.out)
  have HKC := Lib.hid (show (Try.prog.info? 30).map (·.size) = some kc.size ∧ zC.size = kc.size ∧ kc.all (·.oneCell') = true from by rw [← hkc]; exact ⟨by kernel_rfl, rfl, cmc_one ..⟩)
  have Hkc := Lib.hid hkc
  have Hcx := Lib.hid hcx
  clear hcx hkc
  go_enter Try.func53, Try.ntmps53
  go_upto_region 1 with (refine wpList_alloc_zero rfl 30 rfl _ hz30 ?_)
  apply RegT.wp_region_F (fun x y => x = y) (fun _ => rfl) (fun _ _ _ h k => h.trans k)
  · apply RegT.T_pure (v := .pointer (some ⟨w.heap.size, 0, none⟩)) rfl rfl rfl
    · intro W hR; go_simp
    simp only [List.set_cons_succ, List.set_cons_zero, Nat.reduceAdd]
    apply RegT.T_pure (v := .int .u8 3) rfl rfl rfl
    · intro W hR; subst hR; go_simp
    simp only [List.set_cons_succ, List.set_cons_zero, Nat.reduceAdd]
    apply RegT.T_pure (v := .agg kc) rfl rfl rfl
    · intro W hR; rw [← Hkc.out]; exact exec_build30 3 (.tmp 5) rfl rfl
    simp only [List.set_cons_succ, List.set_cons_zero, Nat.reduceAdd]
    refine RegT.T_tail (fun W hR hf => ?_)
    subst hR
    clear hf
    simp only [List.drop_succ_cons, List.drop_zero]
    refine wpList_alloc_zero rfl 30 rfl _ hz30 ?_
    refine wpList_store_rowTo rfl 30 (.tmp 3) (.tmp 6) rfl rfl (w.heap.size + 1 + 1) kc (by simp [Act.eval, Act.put]) rfl 30 zC HZ3.out HKC.out.1 HKC.out.2.1 HKC.out.2.2 ?_
    rw [HR.out]
    clear c0 c0'
    have HRx := Lib.hid (HN.out.range (s := s) (by rw [Hcx.out]; exact cmc_spec _ _ _ _ _ _ _ _ _ _ _))
    have hks : kc.size = 35 := by rw [← Hkc.out]; rfl
    have HTh0 := HN.out.there 5 25 (by omega)
    obtain ⟨sc, hsc⟩ : ∃ sc, s.cells = sc := ⟨_, rfl⟩
    rw [hsc] at HRx
    have Hsc := Lib.hid (And.intro hsc (show (Try.prog.info? 27).map (·.size) = some sc.size ∧ sc.size = 25 ∧ sc.all (·.oneCell') = true ∧ (Try.prog.info? 27).map (·.size) = some sc.toList.length from by rw [← hsc]; exact ⟨by kernel_rfl, rfl, cells_one s, by kernel_rfl⟩))
    have hsc2 := Hsc.out.2.2.1
    clear hsc
    have HNe := Lib.hid (HN.out.puts sc.toList 5)
    have HTh := Lib.hid (show W2.there (w.heap.size + 1 + 1) 5 sc.size by rw [hsc2]; exact HTh0)
    clear HTh0
    obtain ⟨ce, hce⟩ : ∃ ce, putsA kc 5 sc.toList = ce := ⟨_, rfl⟩
    rw [hce] at HNe
    have hcs : ce = cmc 3 0 0 0 0 s false false 0 0 0 := by rw [← hce, ← Hkc.out, ← Hsc.out.1]; exact put3 _
    have HCS := Lib.hid hcs
    have hsz : ce.size = 35 := by rw [hcs]; rfl
    have HO := Lib.hid (show ce.all (·.oneCell') = true from by rw [hcs]; exact cmc_one ..)
    clear hce hcs
    go_wp2_with (first
      | (refine wpList_load_mid rfl 27 (.tmp 20) rfl _ _ rfl sc.toList _ HRx.out Try.underlying27 rfl Hsc.out.2.2.2.2 ?_; rw [Array.toArray_toList])
      | (refine wpList_store_mid rfl 27 (.tmp 22) (.tmp 21) rfl _ _ sc rfl rfl HTh.out Hsc.out.2.1 Hsc.out.2.2.2.1 ?_)
      | (refine wpList_load_row rfl 30 (.tmp 3) rfl _ rfl _ _ _ _ HNe.out.y Try.underlying30 rfl (show _ = some ce.size by rw [hsz]; kernel_rfl) ?_)
      | (refine wpList_store_rowTo rfl 30 (.tmp 2) (.tmp 112) rfl rfl _ ce rfl rfl 30 zC HNe.out.rz (show _ = some ce.size by rw [hsz]; kernel_rfl) (by rw [hsz]; rfl) HO.out ?_))
    obtain ⟨hend, hres⟩ := HNe.out.end_ ce
    refine bodyPost_ret (v := .agg ce) (results_cell_row rfl _ _ (w.heap.size + 1) 30 _ _ _ rfl hres Try.underlying30 rfl (show _ = some ce.size by rw [hsz]; kernel_rfl)) rfl ?_
    exact ⟨by rw [HCS.out], hend⟩
  · rfl
set_option maxRecDepth 100000 in
set_option maxHeartbeats 6400000 in
theorem bare_4_w (a n u : Nat) (m : Int) (s : Sp) (o b : Bool) (z : Nat) (p q : Int) (w : World) (cx : Array Value) (hcx : cx = cmc 4 a n u m s o b z p q) :
    Calls Try.prog 53 #[.agg cx] w fun e w' => e = .returned (.agg (cmc 4 0 n 0 0 Sp.zero o false 0 0 0)) ∧ Below w.heap.size w w' := by
  obtain ⟨kc, hkc⟩ : ∃ kc, kC 4 = kc := ⟨_, rfl⟩
  have HN := Lib.hid (NC.start w cx kc)
  have c0 : (w.alloc (.cells cx 30)).cell? ⟨w.heap.size, 0, none⟩ = some (.int .u8 4) := by rw [cell_of_row _ _ _ _ _ _ (heap_alloc_new w _), hcx]; rfl
  have c0' : ((w.alloc (.cells cx 30)).alloc (.cells zC 30)).cell? ⟨w.heap.size, 0, none⟩ = some (.int .u8 4) := by rw [cell_of_row _ _ _ _ _ _ ((Below.heap_alloc _ _ _ (by simp)).trans (heap_alloc_new w _)), hcx]; rfl
  obtain ⟨W2, hW2⟩ : ∃ W2, ((w.alloc (.cells cx 30)).alloc (.cells zC 30)).alloc (.cells kc 30) = W2 := ⟨_, rfl⟩
  rw [hW2] at HN
  have HW2 := Lib.hid hW2
  clear hW2
  have x0 : W2.cell? ⟨w.heap.size, 0, none⟩ = some (.int .u8 4) := (HN.out.xat 0).trans (by rw [hcx]; rfl)
  have x2 : W2.cell? ⟨w.heap.size, 2, none⟩ = some (.int .u32 (n : Int)) := (HN.out.xat 2).trans (by rw [hcx]; rfl)
  have y2 := (HN.out.yat 2).trans (show _ = some (Value.int .u32 0) by rw [← hkc]; rfl)
  have z2 := HN.out.thaw 2
  have x30 : W2.cell? ⟨w.heap.size, 30, none⟩ = some (.bool o) := (HN.out.xat 30).trans (by rw [hcx]; rfl)
  have y30 := (HN.out.yat 30).trans (show _ = some (Value.bool false) by rw [← hkc]; rfl)
  have z30 := HN.out.thaw 30
  have HZ3 := Lib.hid (show (((w.alloc (.cells cx 30)).alloc (.cells zC 30)).alloc (.cells zC 30)).heap[w.heap.size + 1 + 1]? = some (.cells zC 30) from (NC.start w cx zC).y)
  have HR := Lib.hid (show (((w.alloc (.cells cx 30)).alloc (.cells zC 30)).alloc (.cells zC 30)).setRow (w.heap.size + 1 + 1) kc = W2 from by
    have h := alloc_setRow ((w.alloc (.cells cx 30)).alloc (.cells zC 30)) zC kc 30
    rw [heap_alloc_size, heap_alloc_size] at h
    exact h.trans HW2.out)
  have HKC := Lib.hid (show (Try.prog.info? 30).map (·.size) = some kc.size ∧ zC.size = kc.size ∧ kc.all (·.oneCell') = true from by rw [← hkc]; exact ⟨by kernel_rfl, rfl, cmc_one ..⟩)
  have Hkc := Lib.hid hkc
  have Hcx := Lib.hid hcx
  clear hcx hkc
  go_enter Try.func53, Try.ntmps53
  go_upto_region 1 with (refine wpList_alloc_zero rfl 30 rfl _ hz30 ?_)
  apply RegT.wp_region_F (fun x y => x = y) (fun _ => rfl) (fun _ _ _ h k => h.trans k)
  · apply RegT.T_pure (v := .pointer (some ⟨w.heap.size, 0, none⟩)) rfl rfl rfl
    · intro W hR; go_simp
    simp only [List.set_cons_succ, List.set_cons_zero, Nat.reduceAdd]
    apply RegT.T_pure (v := .int .u8 4) rfl rfl rfl
    · intro W hR; subst hR; go_simp
    simp only [List.set_cons_succ, List.set_cons_zero, Nat.reduceAdd]
    apply RegT.T_pure (v := .agg kc) rfl rfl rfl
    · intro W hR; rw [← Hkc.out]; exact exec_build30 4 (.tmp 5) rfl rfl
    simp only [List.set_cons_succ, List.set_cons_zero, Nat.reduceAdd]
    refine RegT.T_tail (fun W hR hf => ?_)
    subst hR
    clear hf
    simp only [List.drop_succ_cons, List.drop_zero]
    refine wpList_alloc_zero rfl 30 rfl _ hz30 ?_
    refine wpList_store_rowTo rfl 30 (.tmp 3) (.tmp 6) rfl rfl (w.heap.size + 1 + 1) kc (by simp [Act.eval, Act.put]) rfl 30 zC HZ3.out HKC.out.1 HKC.out.2.1 HKC.out.2.2 ?_
    rw [HR.out]
    clear c0 c0'
    go_wp2
    go_region
    have HNe := Lib.hid (show NC w (((W2.setCell ⟨w.heap.size + 1 + 1, 2, none⟩ (.int .u32 (n : Int))).setCell ⟨w.heap.size + 1 + 1, 30, none⟩ (.bool o)).drew) cx ((kc.setIfInBounds 2 (.int .u32 (n : Int))).setIfInBounds 30 (.bool o)) from ((HN.out.put 2 _).put 30 _).drew)
    obtain ⟨ce, hce⟩ : ∃ ce, (kc.setIfInBounds 2 (.int .u32 (n : Int))).setIfInBounds 30 (.bool o) = ce := ⟨_, rfl⟩
    rw [hce] at HNe
    have hcs : ce = cmc 4 0 n 0 0 Sp.zero o false 0 0 0 := by rw [← hce, ← Hkc.out]; rfl
    have HCS := Lib.hid hcs
    have hsz : ce.size = 35 := by rw [hcs]; rfl
    have HO := Lib.hid (show ce.all (·.oneCell') = true from by rw [hcs]; exact cmc_one ..)
    clear hce hcs
    go_wp2_with (first
      | (refine wpList_load_row rfl 30 (.tmp 3) rfl _ rfl _ _ _ _ HNe.out.y Try.underlying30 rfl (show _ = some ce.size by rw [hsz]; kernel_rfl) ?_)
      | (refine wpList_store_rowTo rfl 30 (.tmp 2) (.tmp 112) rfl rfl _ ce rfl rfl 30 zC HNe.out.rz (show _ = some ce.size by rw [hsz]; kernel_rfl) (by rw [hsz]; rfl) HO.out ?_))
    obtain ⟨hend, hres⟩ := HNe.out.end_ ce
    refine bodyPost_ret (v := .agg ce) (results_cell_row rfl _ _ (w.heap.size + 1) 30 _ _ _ rfl hres Try.underlying30 rfl (show _ = some ce.size by rw [hsz]; kernel_rfl)) rfl ?_
    exact ⟨by rw [HCS.out], hend⟩
  · rfl
set_option maxRecDepth 100000 in
set_option maxHeartbeats 6400000 in
theorem bare_5_w (a n u : Nat) (m : Int) (s : Sp) (o b : Bool) (z : Nat) (p q : Int) (w : World) (cx : Array Value) (hcx : cx = cmc 5 a n u m s o b z p q) :
    Calls Try.prog 53 #[.agg cx] w fun e w' => e = .returned (.agg (cmc 5 a n 0 0 Sp.zero false b z p q)) ∧ Below w.heap.size w w' := by
  obtain ⟨kc, hkc⟩ : ∃ kc, kC 5 = kc := ⟨_, rfl⟩
  have HN := Lib.hid (NC.start w cx kc)
  have c0 : (w.alloc (.cells cx 30)).cell? ⟨w.heap.size, 0, none⟩ = some (.int .u8 5) := by rw [cell_of_row _ _ _ _ _ _ (heap_alloc_new w _), hcx]; rfl
  have c0' : ((w.alloc (.cells cx 30)).alloc (.cells zC 30)).cell? ⟨w.heap.size, 0, none⟩ = some (.int .u8 5) := by rw [cell_of_row _ _ _ _ _ _ ((Below.heap_alloc _ _ _ (by simp)).trans (heap_alloc_new w _)), hcx]; rfl
  obtain ⟨W2, hW2⟩ : ∃ W2, ((w.alloc (.cells cx 30)).alloc (.cells zC 30)).alloc (.cells kc 30) = W2 := ⟨_, rfl⟩
  rw [hW2] at HN
  have HW2 := Lib.hid hW2
  clear hW2
  have x0 : W2.cell? ⟨w.heap.size, 0, none⟩ = some (.int .u8 5) := (HN.out.xat 0).trans (by rw [hcx]; rfl)
  have HZ3 := Lib.hid (show (((w.alloc (.cells cx 30)).alloc (.cells zC 30)).alloc (.cells zC 30)).heap[w.heap.size + 1 + 1]? = some (.cells zC 30) from (NC.start w cx zC).y)
  have HR := Lib.hid (show (((w.alloc (.cells cx 30)).alloc (.cells zC 30)).alloc (.cells zC 30)).setRow (w.heap.size + 1 + 1) kc = W2 from by
    have h := alloc_setRow ((w.alloc (.cells cx 30)).alloc (.cells zC 30)) zC kc 30
    rw [heap_alloc_size, heap_alloc_size] at h
    exact h.trans HW2.out)
  have HKC := Lib.hid (show (Try.prog.info? 30).map (·.size) = some kc.size ∧ zC.size = kc.size ∧ kc.all (·.oneCell') = true from by rw [← hkc]; exact ⟨by kernel_rfl, rfl, cmc_one ..⟩)
  have Hkc := Lib.hid hkc
  have Hcx := Lib.hid hcx
  clear hcx hkc
  go_enter Try.func53, Try.ntmps53
  go_upto_region 1 with (refine wpList_alloc_zero rfl 30 rfl _ hz30 ?_)
  apply RegT.wp_region_F (fun x y => x = y) (fun _ => rfl) (fun _ _ _ h k => h.trans k)
  · apply RegT.T_pure (v := .pointer (some ⟨w.heap.size, 0, none⟩)) rfl rfl rfl
    · intro W hR; go_simp
    simp only [List.set_cons_succ, List.set_cons_zero, Nat.reduceAdd]
    apply RegT.T_pure (v := .int .u8 5) rfl rfl rfl
    · intro W hR; subst hR; go_simp
    simp only [List.set_cons_succ, List.set_cons_zero, Nat.reduceAdd]
    apply RegT.T_pure (v := .agg kc) rfl rfl rfl
    · intro W hR; rw [← Hkc.out]; exact exec_build30 5 (.tmp 5) rfl rfl
    simp only [List.set_cons_succ, List.set_cons_zero, Nat.reduceAdd]
    refine RegT.T_tail (fun W hR hf => ?_)
    subst hR
    clear hf
    simp only [List.drop_succ_cons, List.drop_zero]
    refine wpList_alloc_zero rfl 30 rfl _ hz30 ?_
    refine wpList_store_rowTo rfl 30 (.tmp 3) (.tmp 6) rfl rfl (w.heap.size + 1 + 1) kc (by simp [Act.eval, Act.put]) rfl 30 zC HZ3.out HKC.out.1 HKC.out.2.1 HKC.out.2.2 ?_
    rw [HR.out]
    clear c0 c0'
    have HRow := Lib.hid (HN.out.row cx)
    have hcx2 : cx.size = 35 := by rw [Hcx.out]; rfl
    have HOn := Lib.hid (show cx.all (·.oneCell') = true from by rw [Hcx.out]; exact cmc_one ..)
    have HKs := Lib.hid (show kc.size = cx.size from by rw [← Hkc.out, Hcx.out]; rfl)
    go_upto_region 12 with (first
      | (refine wpList_load_row rfl 30 (.tmp 1) rfl _ rfl _ _ _ _ HN.out.x Try.underlying30 rfl (show _ = some cx.size by rw [hcx2]; kernel_rfl) ?_)
      | (refine wpList_store_rowTo rfl 30 (.tmp 3) (.tmp 33) rfl rfl _ cx rfl rfl 30 kc HN.out.y (show _ = some cx.size by rw [hcx2]; kernel_rfl) HKs.out HOn.out ?_))
    generalize W2.setRow (w.heap.size + 1 + 1) cx = W3 at *
    clear x0 HW2 HR HN
    have y3 := (HRow.out.yat 3).trans (show _ = some (Value.int .u64 (u : Int)) by rw [Hcx.out]; rfl)
    have z3 := HRow.out.thaw 3
    have y4 := (HRow.out.yat 4).trans (show _ = some (Value.int .i64 m) by rw [Hcx.out]; rfl)
    have z4 := HRow.out.thaw 4
    have HN4 := Lib.hid ((HRow.out.put 3 (.int .u64 0)).put 4 (.int .i64 0))
    have HTh0 := HN4.out.there 5 25 (by simp [hcx2])
    obtain ⟨sc, hsc⟩ : ∃ sc, Sp.zero.cells = sc := ⟨_, rfl⟩
    have Hsc := Lib.hid (And.intro hsc (show (Try.prog.info? 27).map (·.size) = some sc.size ∧ sc.size = 25 ∧ sc.all (·.oneCell') = true from by rw [← hsc]; exact ⟨by kernel_rfl, rfl, cells_one _⟩))
    have hsc2 := Hsc.out.2.2.1
    have HTh := Lib.hid (show ((W3.setCell ⟨w.heap.size + 1 + 1, 3, none⟩ (.int .u64 0)).setCell ⟨w.heap.size + 1 + 1, 4, none⟩ (.int .i64 0)).there (w.heap.size + 1 + 1) 5 sc.size by rw [hsc2]; exact HTh0)
    have HN5 := Lib.hid (HN4.out.puts sc.toList 5)
    have y30 := (HN5.out.yat 30).trans (show _ = some (Value.bool o) by rw [Hcx.out, ← hsc]; exact put30 ..)
    clear hsc HTh0
    have z30 := HN5.out.thaw 30
    have HNe := Lib.hid (HN5.out.put 30 (.bool false))
    apply RegT.wp_region_F (fun x y => x = y) (fun _ => rfl) (fun _ _ _ h k => h.trans k)
    · apply RegT.T_pure (v := .agg sc) rfl rfl rfl
      · intro W hR; rw [← Hsc.out.1]; exact exec_build27 rfl
      simp only [List.set_cons_succ, List.set_cons_zero, Nat.reduceAdd]
      apply RegT.T_pure (v := .pointer (some ⟨w.heap.size + 1 + 1, 3, none⟩)) rfl rfl rfl
      · intro W hR; go_simp
      simp only [List.set_cons_succ, List.set_cons_zero, Nat.reduceAdd]
      refine RegT.T_tail (fun W hR hf => ?_)
      subst hR
      clear hf
      simp only [List.drop_succ_cons, List.drop_zero]
      obtain ⟨ce, hce⟩ : ∃ ce, (putsA ((cx.setIfInBounds 3 (.int .u64 0)).setIfInBounds 4 (.int .i64 0)) 5 sc.toList).setIfInBounds 30 (.bool false) = ce := ⟨_, rfl⟩
      rw [hce] at HNe
      have hcs : ce = cmc 5 a n 0 0 Sp.zero false b z p q := by rw [← hce, Hcx.out, ← Hsc.out.1]; exact put5 ..
      have HCS := Lib.hid hcs
      have hsz : ce.size = 35 := by rw [hcs]; rfl
      have HO := Lib.hid (show ce.all (·.oneCell') = true from by rw [hcs]; exact cmc_one ..)
      clear hce hcs
      go_wp2_with (first
        | (refine wpList_store_mid rfl 27 (.tmp 37) (.tmp 34) rfl _ _ sc rfl rfl HTh.out Hsc.out.2.1 Hsc.out.2.2.2 ?_)
        | (refine wpList_load_row rfl 30 (.tmp 3) rfl _ rfl _ _ _ _ HNe.out.y Try.underlying30 rfl (show _ = some ce.size by rw [hsz]; kernel_rfl) ?_)
        | (refine wpList_store_rowTo rfl 30 (.tmp 2) (.tmp 112) rfl rfl _ ce rfl rfl 30 zC HNe.out.rz (show _ = some ce.size by rw [hsz]; kernel_rfl) (by rw [hsz]; rfl) HO.out ?_))
      obtain ⟨hend, hres⟩ := HNe.out.end_ ce
      refine bodyPost_ret (v := .agg ce) (results_cell_row rfl _ _ (w.heap.size + 1) 30 _ _ _ rfl hres Try.underlying30 rfl (show _ = some ce.size by rw [hsz]; kernel_rfl)) rfl ?_
      exact ⟨by rw [HCS.out], hend⟩
    · rfl
  · rfl
set_option maxRecDepth 100000 in
set_option maxHeartbeats 6400000 in
theorem bare_6_w (a n u : Nat) (m : Int) (s : Sp) (o b : Bool) (z : Nat) (p q : Int) (w : World) (cx : Array Value) (hcx : cx = cmc 6 a n u m s o b z p q) :
    Calls Try.prog 53 #[.agg cx] w fun e w' => e = .returned (.agg (cmc 6 a 0 u 0 Sp.zero false false 0 0 0)) ∧ Below w.heap.size w w' := by
  obtain ⟨kc, hkc⟩ : ∃ kc, kC 6 = kc := ⟨_, rfl⟩
  have HN := Lib.hid (NC.start w cx kc)
  have c0 : (w.alloc (.cells cx 30)).cell? ⟨w.heap.size, 0, none⟩ = some (.int .u8 6) := by rw [cell_of_row _ _ _ _ _ _ (heap_alloc_new w _), hcx]; rfl
  have c0' : ((w.alloc (.cells cx 30)).alloc (.cells zC 30)).cell? ⟨w.heap.size, 0, none⟩ = some (.int .u8 6) := by rw [cell_of_row _ _ _ _ _ _ ((Below.heap_alloc _ _ _ (by simp)).trans (heap_alloc_new w _)), hcx]; rfl
  obtain ⟨W2, hW2⟩ : ∃ W2, ((w.alloc (.cells cx 30)).alloc (.cells zC 30)).alloc (.cells kc 30) = W2 := ⟨_, rfl⟩
  rw [hW2] at HN
  have HW2 := Lib.hid hW2
  clear hW2
  have x0 : W2.cell? ⟨w.heap.size, 0, none⟩ = some (.int .u8 6) := (HN.out.xat 0).trans (by rw [hcx]; rfl)
  have x1 : W2.cell? ⟨w.heap.size, 1, none⟩ = some (.int .u32 (a : Int)) := (HN.out.xat 1).trans (by rw [hcx]; rfl)
  have y1 := (HN.out.yat 1).trans (show _ = some (Value.int .u32 0) by rw [← hkc]; rfl)
  have z1 := HN.out.thaw 1
  have x3 : W2.cell? ⟨w.heap.size, 3, none⟩ = some (.int .u64 (u : Int)) := (HN.out.xat 3).trans (by rw [hcx]; rfl)
  have y3 := (HN.out.yat 3).trans (show _ = some (Value.int .u64 0) by rw [← hkc]; rfl)
  have z3 := HN.out.thaw 3
  have HZ3 := Lib.hid (show (((w.alloc (.cells cx 30)).alloc (.cells zC 30)).alloc (.cells zC 30)).heap[w.heap.size + 1 + 1]? = some (.cells zC 30) from (NC.start w cx zC).y)
  have HR := Lib.hid (show (((w.alloc (.cells cx 30)).alloc (.cells zC 30)).alloc (.cells zC 30)).setRow (w.heap.size + 1 + 1) kc = W2 from by
    have h := alloc_setRow ((w.alloc (.cells cx 30)).alloc (.cells zC 30)) zC kc 30
    rw [heap_alloc_size, heap_alloc_size] at h
    exact h.trans HW2.out)
  have HKC := Lib.hid (show (Try.prog.info? 30).map (·.size) = some kc.size ∧ zC.size = kc.size ∧ kc.all (·.oneCell') = true from by rw [← hkc]; exact ⟨by kernel_rfl, rfl, cmc_one ..⟩)
  have Hkc := Lib.hid hkc
  have Hcx := Lib.hid hcx
  clear hcx hkc
  go_enter Try.func53, Try.ntmps53
  go_upto_region 1 with (refine wpList_alloc_zero rfl 30 rfl _ hz30 ?_)
  apply RegT.wp_region_F (fun x y => x = y) (fun _ => rfl) (fun _ _ _ h k => h.trans k)
  · apply RegT.T_pure (v := .pointer (some ⟨w.heap.size, 0, none⟩)) rfl rfl rfl
    · intro W hR; go_simp
    simp only [List.set_cons_succ, List.set_cons_zero, Nat.reduceAdd]
    apply RegT.T_pure (v := .int .u8 6) rfl rfl rfl
    · intro W hR; subst hR; go_simp
    simp only [List.set_cons_succ, List.set_cons_zero, Nat.reduceAdd]
    apply RegT.T_pure (v := .agg kc) rfl rfl rfl
    · intro W hR; rw [← Hkc.out]; exact exec_build30 6 (.tmp 5) rfl rfl
    simp only [List.set_cons_succ, List.set_cons_zero, Nat.reduceAdd]
    refine RegT.T_tail (fun W hR hf => ?_)
    subst hR
    clear hf
    simp only [List.drop_succ_cons, List.drop_zero]
    refine wpList_alloc_zero rfl 30 rfl _ hz30 ?_
    refine wpList_store_rowTo rfl 30 (.tmp 3) (.tmp 6) rfl rfl (w.heap.size + 1 + 1) kc (by simp [Act.eval, Act.put]) rfl 30 zC HZ3.out HKC.out.1 HKC.out.2.1 HKC.out.2.2 ?_
    rw [HR.out]
    clear c0 c0'
    go_wp2
    go_region
    have HNe := Lib.hid (show NC w (((W2.setCell ⟨w.heap.size + 1 + 1, 1, none⟩ (.int .u32 (a : Int))).setCell ⟨w.heap.size + 1 + 1, 3, none⟩ (.int .u64 (u : Int))).drew) cx ((kc.setIfInBounds 1 (.int .u32 (a : Int))).setIfInBounds 3 (.int .u64 (u : Int))) from ((HN.out.put 1 _).put 3 _).drew)
    obtain ⟨ce, hce⟩ : ∃ ce, (kc.setIfInBounds 1 (.int .u32 (a : Int))).setIfInBounds 3 (.int .u64 (u : Int)) = ce := ⟨_, rfl⟩
    rw [hce] at HNe
    have hcs : ce = cmc 6 a 0 u 0 Sp.zero false false 0 0 0 := by rw [← hce, ← Hkc.out]; rfl
    have HCS := Lib.hid hcs
    have hsz : ce.size = 35 := by rw [hcs]; rfl
    have HO := Lib.hid (show ce.all (·.oneCell') = true from by rw [hcs]; exact cmc_one ..)
    clear hce hcs
    go_wp2_with (first
      | (refine wpList_load_row rfl 30 (.tmp 3) rfl _ rfl _ _ _ _ HNe.out.y Try.underlying30 rfl (show _ = some ce.size by rw [hsz]; kernel_rfl) ?_)
      | (refine wpList_store_rowTo rfl 30 (.tmp 2) (.tmp 112) rfl rfl _ ce rfl rfl 30 zC HNe.out.rz (show _ = some ce.size by rw [hsz]; kernel_rfl) (by rw [hsz]; rfl) HO.out ?_))
    obtain ⟨hend, hres⟩ := HNe.out.end_ ce
    refine bodyPost_ret (v := .agg ce) (results_cell_row rfl _ _ (w.heap.size + 1) 30 _ _ _ rfl hres Try.underlying30 rfl (show _ = some ce.size by rw [hsz]; kernel_rfl)) rfl ?_
    exact ⟨by rw [HCS.out], hend⟩
  · rfl
set_option maxRecDepth 100000 in
set_option maxHeartbeats 6400000 in
theorem bare_7_w (a n u : Nat) (m : Int) (s : Sp) (o b : Bool) (z : Nat) (p q : Int) (w : World) (cx : Array Value) (hcx : cx = cmc 7 a n u m s o b z p q) :
    Calls Try.prog 53 #[.agg cx] w fun e w' => e = .returned (.agg (cmc 7 a 0 u 0 Sp.zero false false 0 p q)) ∧ Below w.heap.size w w' := by
  obtain ⟨kc, hkc⟩ : ∃ kc, kC 7 = kc := ⟨_, rfl⟩
  have HN := Lib.hid (NC.start w cx kc)
  have c0 : (w.alloc (.cells cx 30)).cell? ⟨w.heap.size, 0, none⟩ = some (.int .u8 7) := by rw [cell_of_row _ _ _ _ _ _ (heap_alloc_new w _), hcx]; rfl
  have c0' : ((w.alloc (.cells cx 30)).alloc (.cells zC 30)).cell? ⟨w.heap.size, 0, none⟩ = some (.int .u8 7) := by rw [cell_of_row _ _ _ _ _ _ ((Below.heap_alloc _ _ _ (by simp)).trans (heap_alloc_new w _)), hcx]; rfl
  obtain ⟨W2, hW2⟩ : ∃ W2, ((w.alloc (.cells cx 30)).alloc (.cells zC 30)).alloc (.cells kc 30) = W2 := ⟨_, rfl⟩
  rw [hW2] at HN
  have HW2 := Lib.hid hW2
  clear hW2
  have x0 : W2.cell? ⟨w.heap.size, 0, none⟩ = some (.int .u8 7) := (HN.out.xat 0).trans (by rw [hcx]; rfl)
  have x1 : W2.cell? ⟨w.heap.size, 1, none⟩ = some (.int .u32 (a : Int)) := (HN.out.xat 1).trans (by rw [hcx]; rfl)
  have y1 := (HN.out.yat 1).trans (show _ = some (Value.int .u32 0) by rw [← hkc]; rfl)
  have z1 := HN.out.thaw 1
  have x3 : W2.cell? ⟨w.heap.size, 3, none⟩ = some (.int .u64 (u : Int)) := (HN.out.xat 3).trans (by rw [hcx]; rfl)
  have y3 := (HN.out.yat 3).trans (show _ = some (Value.int .u64 0) by rw [← hkc]; rfl)
  have z3 := HN.out.thaw 3
  have x33 : W2.cell? ⟨w.heap.size, 33, none⟩ = some (.int .i64 p) := (HN.out.xat 33).trans (by rw [hcx]; rfl)
  have y33 := (HN.out.yat 33).trans (show _ = some (Value.int .i64 0) by rw [← hkc]; rfl)
  have z33 := HN.out.thaw 33
  have x34 : W2.cell? ⟨w.heap.size, 34, none⟩ = some (.int .i64 q) := (HN.out.xat 34).trans (by rw [hcx]; rfl)
  have y34 := (HN.out.yat 34).trans (show _ = some (Value.int .i64 0) by rw [← hkc]; rfl)
  have z34 := HN.out.thaw 34
  have HZ3 := Lib.hid (show (((w.alloc (.cells cx 30)).alloc (.cells zC 30)).alloc (.cells zC 30)).heap[w.heap.size + 1 + 1]? = some (.cells zC 30) from (NC.start w cx zC).y)
  have HR := Lib.hid (show (((w.alloc (.cells cx 30)).alloc (.cells zC 30)).alloc (.cells zC 30)).setRow (w.heap.size + 1 + 1) kc = W2 from by
    have h := alloc_setRow ((w.alloc (.cells cx 30)).alloc (.cells zC 30)) zC kc 30
    rw [heap_alloc_size, heap_alloc_size] at h
    exact h.trans HW2.out)
  have HKC := Lib.hid (show (Try.prog.info? 30).map (·.size) = some kc.size ∧ zC.size = kc.size ∧ kc.all (·.oneCell') = true from by rw [← hkc]; exact ⟨by kernel_rfl, rfl, cmc_one ..⟩)
  have Hkc := Lib.hid hkc
  have Hcx := Lib.hid hcx
  clear hcx hkc
  go_enter Try.func53, Try.ntmps53
  go_upto_region 1 with (refine wpList_alloc_zero rfl 30 rfl _ hz30 ?_)
  apply RegT.wp_region_F (fun x y => x = y) (fun _ => rfl) (fun _ _ _ h k => h.trans k)
  · apply RegT.T_pure (v := .pointer (some ⟨w.heap.size, 0, none⟩)) rfl rfl rfl
    · intro W hR; go_simp
    simp only [List.set_cons_succ, List.set_cons_zero, Nat.reduceAdd]
    apply RegT.T_pure (v := .int .u8 7) rfl rfl rfl
    · intro W hR; subst hR; go_simp
    simp only [List.set_cons_succ, List.set_cons_zero, Nat.reduceAdd]
    apply RegT.T_pure (v := .agg kc) rfl rfl rfl
    · intro W hR; rw [← Hkc.out]; exact exec_build30 7 (.tmp 5) rfl rfl
    simp only [List.set_cons_succ, List.set_cons_zero, Nat.reduceAdd]
    refine RegT.T_tail (fun W hR hf => ?_)
    subst hR
    clear hf
    simp only [List.drop_succ_cons, List.drop_zero]
    refine wpList_alloc_zero rfl 30 rfl _ hz30 ?_
    refine wpList_store_rowTo rfl 30 (.tmp 3) (.tmp 6) rfl rfl (w.heap.size + 1 + 1) kc (by simp [Act.eval, Act.put]) rfl 30 zC HZ3.out HKC.out.1 HKC.out.2.1 HKC.out.2.2 ?_
    rw [HR.out]
    clear c0 c0'
    go_wp2
    go_region
    have HNe := Lib.hid (show NC w (((((W2.setCell ⟨w.heap.size + 1 + 1, 1, none⟩ (.int .u32 (a : Int))).setCell ⟨w.heap.size + 1 + 1, 3, none⟩ (.int .u64 (u : Int))).setCell ⟨w.heap.size + 1 + 1, 33, none⟩ (.int .i64 p)).setCell ⟨w.heap.size + 1 + 1, 34, none⟩ (.int .i64 q)).drew) cx ((((kc.setIfInBounds 1 (.int .u32 (a : Int))).setIfInBounds 3 (.int .u64 (u : Int))).setIfInBounds 33 (.int .i64 p)).setIfInBounds 34 (.int .i64 q)) from ((((HN.out.put 1 _).put 3 _).put 33 _).put 34 _).drew)
    obtain ⟨ce, hce⟩ : ∃ ce, (((kc.setIfInBounds 1 (.int .u32 (a : Int))).setIfInBounds 3 (.int .u64 (u : Int))).setIfInBounds 33 (.int .i64 p)).setIfInBounds 34 (.int .i64 q) = ce := ⟨_, rfl⟩
    rw [hce] at HNe
    have hcs : ce = cmc 7 a 0 u 0 Sp.zero false false 0 p q := by rw [← hce, ← Hkc.out]; rfl
    have HCS := Lib.hid hcs
    have hsz : ce.size = 35 := by rw [hcs]; rfl
    have HO := Lib.hid (show ce.all (·.oneCell') = true from by rw [hcs]; exact cmc_one ..)
    clear hce hcs
    go_wp2_with (first
      | (refine wpList_load_row rfl 30 (.tmp 3) rfl _ rfl _ _ _ _ HNe.out.y Try.underlying30 rfl (show _ = some ce.size by rw [hsz]; kernel_rfl) ?_)
      | (refine wpList_store_rowTo rfl 30 (.tmp 2) (.tmp 112) rfl rfl _ ce rfl rfl 30 zC HNe.out.rz (show _ = some ce.size by rw [hsz]; kernel_rfl) (by rw [hsz]; rfl) HO.out ?_))
    obtain ⟨hend, hres⟩ := HNe.out.end_ ce
    refine bodyPost_ret (v := .agg ce) (results_cell_row rfl _ _ (w.heap.size + 1) 30 _ _ _ rfl hres Try.underlying30 rfl (show _ = some ce.size by rw [hsz]; kernel_rfl)) rfl ?_
    exact ⟨by rw [HCS.out], hend⟩
  · rfl
set_option maxRecDepth 100000 in
set_option maxHeartbeats 6400000 in
theorem bare_8_w (a n u : Nat) (m : Int) (s : Sp) (o b : Bool) (z : Nat) (p q : Int) (w : World) (cx : Array Value) (hcx : cx = cmc 8 a n u m s o b z p q) :
    Calls Try.prog 53 #[.agg cx] w fun e w' => e = .returned (.agg (cmc 8 a n 0 0 Sp.zero false false 0 0 0)) ∧ Below w.heap.size w w' := by
  obtain ⟨kc, hkc⟩ : ∃ kc, kC 8 = kc := ⟨_, rfl⟩
  have HN := Lib.hid (NC.start w cx kc)
  have c0 : (w.alloc (.cells cx 30)).cell? ⟨w.heap.size, 0, none⟩ = some (.int .u8 8) := by rw [cell_of_row _ _ _ _ _ _ (heap_alloc_new w _), hcx]; rfl
  have c0' : ((w.alloc (.cells cx 30)).alloc (.cells zC 30)).cell? ⟨w.heap.size, 0, none⟩ = some (.int .u8 8) := by rw [cell_of_row _ _ _ _ _ _ ((Below.heap_alloc _ _ _ (by simp)).trans (heap_alloc_new w _)), hcx]; rfl
  obtain ⟨W2, hW2⟩ : ∃ W2, ((w.alloc (.cells cx 30)).alloc (.cells zC 30)).alloc (.cells kc 30) = W2 := ⟨_, rfl⟩
  rw [hW2] at HN
  have HW2 := Lib.hid hW2
  clear hW2
  have x0 : W2.cell? ⟨w.heap.size, 0, none⟩ = some (.int .u8 8) := (HN.out.xat 0).trans (by rw [hcx]; rfl)
  have x1 : W2.cell? ⟨w.heap.size, 1, none⟩ = some (.int .u32 (a : Int)) := (HN.out.xat 1).trans (by rw [hcx]; rfl)
  have y1 := (HN.out.yat 1).trans (show _ = some (Value.int .u32 0) by rw [← hkc]; rfl)
  have z1 := HN.out.thaw 1
  have x2 : W2.cell? ⟨w.heap.size, 2, none⟩ = some (.int .u32 (n : Int)) := (HN.out.xat 2).trans (by rw [hcx]; rfl)
  have y2 := (HN.out.yat 2).trans (show _ = some (Value.int .u32 0) by rw [← hkc]; rfl)
  have z2 := HN.out.thaw 2
  have HZ3 := Lib.hid (show (((w.alloc (.cells cx 30)).alloc (.cells zC 30)).alloc (.cells zC 30)).heap[w.heap.size + 1 + 1]? = some (.cells zC 30) from (NC.start w cx zC).y)
  have HR := Lib.hid (show (((w.alloc (.cells cx 30)).alloc (.cells zC 30)).alloc (.cells zC 30)).setRow (w.heap.size + 1 + 1) kc = W2 from by
    have h := alloc_setRow ((w.alloc (.cells cx 30)).alloc (.cells zC 30)) zC kc 30
    rw [heap_alloc_size, heap_alloc_size] at h
    exact h.trans HW2.out)
  have HKC := Lib.hid (show (Try.prog.info? 30).map (·.size) = some kc.size ∧ zC.size = kc.size ∧ kc.all (·.oneCell') = true from by rw [← hkc]; exact ⟨by kernel_rfl, rfl, cmc_one ..⟩)
  have Hkc := Lib.hid hkc
  have Hcx := Lib.hid hcx
  clear hcx hkc
  go_enter Try.func53, Try.ntmps53
  go_upto_region 1 with (refine wpList_alloc_zero rfl 30 rfl _ hz30 ?_)
  apply RegT.wp_region_F (fun x y => x = y) (fun _ => rfl) (fun _ _ _ h k => h.trans k)
  · apply RegT.T_pure (v := .pointer (some ⟨w.heap.size, 0, none⟩)) rfl rfl rfl
    · intro W hR; go_simp
    simp only [List.set_cons_succ, List.set_cons_zero, Nat.reduceAdd]
    apply RegT.T_pure (v := .int .u8 8) rfl rfl rfl
    · intro W hR; subst hR; go_simp
    simp only [List.set_cons_succ, List.set_cons_zero, Nat.reduceAdd]
    apply RegT.T_pure (v := .agg kc) rfl rfl rfl
    · intro W hR; rw [← Hkc.out]; exact exec_build30 8 (.tmp 5) rfl rfl
    simp only [List.set_cons_succ, List.set_cons_zero, Nat.reduceAdd]
    refine RegT.T_tail (fun W hR hf => ?_)
    subst hR
    clear hf
    simp only [List.drop_succ_cons, List.drop_zero]
    refine wpList_alloc_zero rfl 30 rfl _ hz30 ?_
    refine wpList_store_rowTo rfl 30 (.tmp 3) (.tmp 6) rfl rfl (w.heap.size + 1 + 1) kc (by simp [Act.eval, Act.put]) rfl 30 zC HZ3.out HKC.out.1 HKC.out.2.1 HKC.out.2.2 ?_
    rw [HR.out]
    clear c0 c0'
    go_wp2
    go_region
    have HNe := Lib.hid (show NC w (((W2.setCell ⟨w.heap.size + 1 + 1, 1, none⟩ (.int .u32 (a : Int))).setCell ⟨w.heap.size + 1 + 1, 2, none⟩ (.int .u32 (n : Int))).drew) cx ((kc.setIfInBounds 1 (.int .u32 (a : Int))).setIfInBounds 2 (.int .u32 (n : Int))) from ((HN.out.put 1 _).put 2 _).drew)
    obtain ⟨ce, hce⟩ : ∃ ce, (kc.setIfInBounds 1 (.int .u32 (a : Int))).setIfInBounds 2 (.int .u32 (n : Int)) = ce := ⟨_, rfl⟩
    rw [hce] at HNe
    have hcs : ce = cmc 8 a n 0 0 Sp.zero false false 0 0 0 := by rw [← hce, ← Hkc.out]; rfl
    have HCS := Lib.hid hcs
    have hsz : ce.size = 35 := by rw [hcs]; rfl
    have HO := Lib.hid (show ce.all (·.oneCell') = true from by rw [hcs]; exact cmc_one ..)
    clear hce hcs
    go_wp2_with (first
      | (refine wpList_load_row rfl 30 (.tmp 3) rfl _ rfl _ _ _ _ HNe.out.y Try.underlying30 rfl (show _ = some ce.size by rw [hsz]; kernel_rfl) ?_)
      | (refine wpList_store_rowTo rfl 30 (.tmp 2) (.tmp 112) rfl rfl _ ce rfl rfl 30 zC HNe.out.rz (show _ = some ce.size by rw [hsz]; kernel_rfl) (by rw [hsz]; rfl) HO.out ?_))
    obtain ⟨hend, hres⟩ := HNe.out.end_ ce
    refine bodyPost_ret (v := .agg ce) (results_cell_row rfl _ _ (w.heap.size + 1) 30 _ _ _ rfl hres Try.underlying30 rfl (show _ = some ce.size by rw [hsz]; kernel_rfl)) rfl ?_
    exact ⟨by rw [HCS.out], hend⟩
  · rfl
set_option maxRecDepth 100000 in
set_option maxHeartbeats 6400000 in
theorem bare_9_w (a n u : Nat) (m : Int) (s : Sp) (o b : Bool) (z : Nat) (p q : Int) (w : World) (cx : Array Value) (hcx : cx = cmc 9 a n u m s o b z p q) :
    Calls Try.prog 53 #[.agg cx] w fun e w' => e = .returned (.agg (cmc 9 a n 0 0 Sp.zero false b 0 p q)) ∧ Below w.heap.size w w' := by
  obtain ⟨kc, hkc⟩ : ∃ kc, kC 9 = kc := ⟨_, rfl⟩
  have HN := Lib.hid (NC.start w cx kc)
  have c0 : (w.alloc (.cells cx 30)).cell? ⟨w.heap.size, 0, none⟩ = some (.int .u8 9) := by rw [cell_of_row _ _ _ _ _ _ (heap_alloc_new w _), hcx]; rfl
  have c0' : ((w.alloc (.cells cx 30)).alloc (.cells zC 30)).cell? ⟨w.heap.size, 0, none⟩ = some (.int .u8 9) := by rw [cell_of_row _ _ _ _ _ _ ((Below.heap_alloc _ _ _ (by simp)).trans (heap_alloc_new w _)), hcx]; rfl
  obtain ⟨W2, hW2⟩ : ∃ W2, ((w.alloc (.cells cx 30)).alloc (.cells zC 30)).alloc (.cells kc 30) = W2 := ⟨_, rfl⟩
  rw [hW2] at HN
  have HW2 := Lib.hid hW2
  clear hW2
  have x0 : W2.cell? ⟨w.heap.size, 0, none⟩ = some (.int .u8 9) := (HN.out.xat 0).trans (by rw [hcx]; rfl)
  have x1 : W2.cell? ⟨w.heap.size, 1, none⟩ = some (.int .u32 (a : Int)) := (HN.out.xat 1).trans (by rw [hcx]; rfl)
  have y1 := (HN.out.yat 1).trans (show _ = some (Value.int .u32 0) by rw [← hkc]; rfl)
  have z1 := HN.out.thaw 1
  have x2 : W2.cell? ⟨w.heap.size, 2, none⟩ = some (.int .u32 (n : Int)) := (HN.out.xat 2).trans (by rw [hcx]; rfl)
  have y2 := (HN.out.yat 2).trans (show _ = some (Value.int .u32 0) by rw [← hkc]; rfl)
  have z2 := HN.out.thaw 2
  have x31 : W2.cell? ⟨w.heap.size, 31, none⟩ = some (.bool b) := (HN.out.xat 31).trans (by rw [hcx]; rfl)
  have y31 := (HN.out.yat 31).trans (show _ = some (Value.bool false) by rw [← hkc]; rfl)
  have z31 := HN.out.thaw 31
  have x33 : W2.cell? ⟨w.heap.size, 33, none⟩ = some (.int .i64 p) := (HN.out.xat 33).trans (by rw [hcx]; rfl)
  have y33 := (HN.out.yat 33).trans (show _ = some (Value.int .i64 0) by rw [← hkc]; rfl)
  have z33 := HN.out.thaw 33
  have x34 : W2.cell? ⟨w.heap.size, 34, none⟩ = some (.int .i64 q) := (HN.out.xat 34).trans (by rw [hcx]; rfl)
  have y34 := (HN.out.yat 34).trans (show _ = some (Value.int .i64 0) by rw [← hkc]; rfl)
  have z34 := HN.out.thaw 34
  have HZ3 := Lib.hid (show (((w.alloc (.cells cx 30)).alloc (.cells zC 30)).alloc (.cells zC 30)).heap[w.heap.size + 1 + 1]? = some (.cells zC 30) from (NC.start w cx zC).y)
  have HR := Lib.hid (show (((w.alloc (.cells cx 30)).alloc (.cells zC 30)).alloc (.cells zC 30)).setRow (w.heap.size + 1 + 1) kc = W2 from by
    have h := alloc_setRow ((w.alloc (.cells cx 30)).alloc (.cells zC 30)) zC kc 30
    rw [heap_alloc_size, heap_alloc_size] at h
    exact h.trans HW2.out)
  have HKC := Lib.hid (show (Try.prog.info? 30).map (·.size) = some kc.size ∧ zC.size = kc.size ∧ kc.all (·.oneCell') = true from by rw [← hkc]; exact ⟨by kernel_rfl, rfl, cmc_one ..⟩)
  have Hkc := Lib.hid hkc
  have Hcx := Lib.hid hcx
  clear hcx hkc
  go_enter Try.func53, Try.ntmps53
  go_upto_region 1 with (refine wpList_alloc_zero rfl 30 rfl _ hz30 ?_)
  apply RegT.wp_region_F (fun x y => x = y) (fun _ => rfl) (fun _ _ _ h k => h.trans k)
  · apply RegT.T_pure (v := .pointer (some ⟨w.heap.size, 0, none⟩)) rfl rfl rfl
    · intro W hR; go_simp
    simp only [List.set_cons_succ, List.set_cons_zero, Nat.reduceAdd]
    apply RegT.T_pure (v := .int .u8 9) rfl rfl rfl
    · intro W hR; subst hR; go_simp
    simp only [List.set_cons_succ, List.set_cons_zero, Nat.reduceAdd]
    apply RegT.T_pure (v := .agg kc) rfl rfl rfl
    · intro W hR; rw [← Hkc.out]; exact exec_build30 9 (.tmp 5) rfl rfl
    simp only [List.set_cons_succ, List.set_cons_zero, Nat.reduceAdd]
    refine RegT.T_tail (fun W hR hf => ?_)
    subst hR
    clear hf
    simp only [List.drop_succ_cons, List.drop_zero]
    refine wpList_alloc_zero rfl 30 rfl _ hz30 ?_
    refine wpList_store_rowTo rfl 30 (.tmp 3) (.tmp 6) rfl rfl (w.heap.size + 1 + 1) kc (by simp [Act.eval, Act.put]) rfl 30 zC HZ3.out HKC.out.1 HKC.out.2.1 HKC.out.2.2 ?_
    rw [HR.out]
    clear c0 c0'
    go_wp2
    go_region
    have HNe := Lib.hid (show NC w ((((((W2.setCell ⟨w.heap.size + 1 + 1, 1, none⟩ (.int .u32 (a : Int))).setCell ⟨w.heap.size + 1 + 1, 2, none⟩ (.int .u32 (n : Int))).setCell ⟨w.heap.size + 1 + 1, 31, none⟩ (.bool b)).setCell ⟨w.heap.size + 1 + 1, 33, none⟩ (.int .i64 p)).setCell ⟨w.heap.size + 1 + 1, 34, none⟩ (.int .i64 q)).drew) cx (((((kc.setIfInBounds 1 (.int .u32 (a : Int))).setIfInBounds 2 (.int .u32 (n : Int))).setIfInBounds 31 (.bool b)).setIfInBounds 33 (.int .i64 p)).setIfInBounds 34 (.int .i64 q)) from (((((HN.out.put 1 _).put 2 _).put 31 _).put 33 _).put 34 _).drew)
    obtain ⟨ce, hce⟩ : ∃ ce, ((((kc.setIfInBounds 1 (.int .u32 (a : Int))).setIfInBounds 2 (.int .u32 (n : Int))).setIfInBounds 31 (.bool b)).setIfInBounds 33 (.int .i64 p)).setIfInBounds 34 (.int .i64 q) = ce := ⟨_, rfl⟩
    rw [hce] at HNe
    have hcs : ce = cmc 9 a n 0 0 Sp.zero false b 0 p q := by rw [← hce, ← Hkc.out]; rfl
    have HCS := Lib.hid hcs
    have hsz : ce.size = 35 := by rw [hcs]; rfl
    have HO := Lib.hid (show ce.all (·.oneCell') = true from by rw [hcs]; exact cmc_one ..)
    clear hce hcs
    go_wp2_with (first
      | (refine wpList_load_row rfl 30 (.tmp 3) rfl _ rfl _ _ _ _ HNe.out.y Try.underlying30 rfl (show _ = some ce.size by rw [hsz]; kernel_rfl) ?_)
      | (refine wpList_store_rowTo rfl 30 (.tmp 2) (.tmp 112) rfl rfl _ ce rfl rfl 30 zC HNe.out.rz (show _ = some ce.size by rw [hsz]; kernel_rfl) (by rw [hsz]; rfl) HO.out ?_))
    obtain ⟨hend, hres⟩ := HNe.out.end_ ce
    refine bodyPost_ret (v := .agg ce) (results_cell_row rfl _ _ (w.heap.size + 1) 30 _ _ _ rfl hres Try.underlying30 rfl (show _ = some ce.size by rw [hsz]; kernel_rfl)) rfl ?_
    exact ⟨by rw [HCS.out], hend⟩
  · rfl
set_option maxRecDepth 100000 in
set_option maxHeartbeats 6400000 in
theorem bare_10_w (a n u : Nat) (m : Int) (s : Sp) (o b : Bool) (z : Nat) (p q : Int) (w : World) (cx : Array Value) (hcx : cx = cmc 10 a n u m s o b z p q) :
    Calls Try.prog 53 #[.agg cx] w fun e w' => e = .returned (.agg (cmc 10 a 0 0 0 Sp.zero o false 0 0 0)) ∧ Below w.heap.size w w' := by
  obtain ⟨kc, hkc⟩ : ∃ kc, kC 10 = kc := ⟨_, rfl⟩
  have HN := Lib.hid (NC.start w cx kc)
  have c0 : (w.alloc (.cells cx 30)).cell? ⟨w.heap.size, 0, none⟩ = some (.int .u8 10) := by rw [cell_of_row _ _ _ _ _ _ (heap_alloc_new w _), hcx]; rfl
  have c0' : ((w.alloc (.cells cx 30)).alloc (.cells zC 30)).cell? ⟨w.heap.size, 0, none⟩ = some (.int .u8 10) := by rw [cell_of_row _ _ _ _ _ _ ((Below.heap_alloc _ _ _ (by simp)).trans (heap_alloc_new w _)), hcx]; rfl
  obtain ⟨W2, hW2⟩ : ∃ W2, ((w.alloc (.cells cx 30)).alloc (.cells zC 30)).alloc (.cells kc 30) = W2 := ⟨_, rfl⟩
  rw [hW2] at HN
  have HW2 := Lib.hid hW2
  clear hW2
  have x0 : W2.cell? ⟨w.heap.size, 0, none⟩ = some (.int .u8 10) := (HN.out.xat 0).trans (by rw [hcx]; rfl)
  have x1 : W2.cell? ⟨w.heap.size, 1, none⟩ = some (.int .u32 (a : Int)) := (HN.out.xat 1).trans (by rw [hcx]; rfl)
  have y1 := (HN.out.yat 1).trans (show _ = some (Value.int .u32 0) by rw [← hkc]; rfl)
  have z1 := HN.out.thaw 1
  have x30 : W2.cell? ⟨w.heap.size, 30, none⟩ = some (.bool o) := (HN.out.xat 30).trans (by rw [hcx]; rfl)
  have y30 := (HN.out.yat 30).trans (show _ = some (Value.bool false) by rw [← hkc]; rfl)
  have z30 := HN.out.thaw 30
  have HZ3 := Lib.hid (show (((w.alloc (.cells cx 30)).alloc (.cells zC 30)).alloc (.cells zC 30)).heap[w.heap.size + 1 + 1]? = some (.cells zC 30) from (NC.start w cx zC).y)
  have HR := Lib.hid (show (((w.alloc (.cells cx 30)).alloc (.cells zC 30)).alloc (.cells zC 30)).setRow (w.heap.size + 1 + 1) kc = W2 from by
    have h := alloc_setRow ((w.alloc (.cells cx 30)).alloc (.cells zC 30)) zC kc 30
    rw [heap_alloc_size, heap_alloc_size] at h
    exact h.trans HW2.out)
  have HKC := Lib.hid (show (Try.prog.info? 30).map (·.size) = some kc.size ∧ zC.size = kc.size ∧ kc.all (·.oneCell') = true from by rw [← hkc]; exact ⟨by kernel_rfl, rfl, cmc_one ..⟩)
  have Hkc := Lib.hid hkc
  have Hcx := Lib.hid hcx
  clear hcx hkc
  go_enter Try.func53, Try.ntmps53
  go_upto_region 1 with (refine wpList_alloc_zero rfl 30 rfl _ hz30 ?_)
  apply RegT.wp_region_F (fun x y => x = y) (fun _ => rfl) (fun _ _ _ h k => h.trans k)
  · apply RegT.T_pure (v := .pointer (some ⟨w.heap.size, 0, none⟩)) rfl rfl rfl
    · intro W hR; go_simp
    simp only [List.set_cons_succ, List.set_cons_zero, Nat.reduceAdd]
    apply RegT.T_pure (v := .int .u8 10) rfl rfl rfl
    · intro W hR; subst hR; go_simp
    simp only [List.set_cons_succ, List.set_cons_zero, Nat.reduceAdd]
    apply RegT.T_pure (v := .agg kc) rfl rfl rfl
    · intro W hR; rw [← Hkc.out]; exact exec_build30 10 (.tmp 5) rfl rfl
    simp only [List.set_cons_succ, List.set_cons_zero, Nat.reduceAdd]
    refine RegT.T_tail (fun W hR hf => ?_)
    subst hR
    clear hf
    simp only [List.drop_succ_cons, List.drop_zero]
    refine wpList_alloc_zero rfl 30 rfl _ hz30 ?_
    refine wpList_store_rowTo rfl 30 (.tmp 3) (.tmp 6) rfl rfl (w.heap.size + 1 + 1) kc (by simp [Act.eval, Act.put]) rfl 30 zC HZ3.out HKC.out.1 HKC.out.2.1 HKC.out.2.2 ?_
    rw [HR.out]
    clear c0 c0'
    go_wp2
    go_region
    have HNe := Lib.hid (show NC w (((W2.setCell ⟨w.heap.size + 1 + 1, 1, none⟩ (.int .u32 (a : Int))).setCell ⟨w.heap.size + 1 + 1, 30, none⟩ (.bool o)).drew) cx ((kc.setIfInBounds 1 (.int .u32 (a : Int))).setIfInBounds 30 (.bool o)) from ((HN.out.put 1 _).put 30 _).drew)
    obtain ⟨ce, hce⟩ : ∃ ce, (kc.setIfInBounds 1 (.int .u32 (a : Int))).setIfInBounds 30 (.bool o) = ce := ⟨_, rfl⟩
    rw [hce] at HNe
    have hcs : ce = cmc 10 a 0 0 0 Sp.zero o false 0 0 0 := by rw [← hce, ← Hkc.out]; rfl
    have HCS := Lib.hid hcs
    have hsz : ce.size = 35 := by rw [hcs]; rfl
    have HO := Lib.hid (show ce.all (·.oneCell') = true from by rw [hcs]; exact cmc_one ..)
    clear hce hcs
    go_wp2_with (first
      | (refine wpList_load_row rfl 30 (.tmp 3) rfl _ rfl _ _ _ _ HNe.out.y Try.underlying30 rfl (show _ = some ce.size by rw [hsz]; kernel_rfl) ?_)
      | (refine wpList_store_rowTo rfl 30 (.tmp 2) (.tmp 112) rfl rfl _ ce rfl rfl 30 zC HNe.out.rz (show _ = some ce.size by rw [hsz]; kernel_rfl) (by rw [hsz]; rfl) HO.out ?_))
    obtain ⟨hend, hres⟩ := HNe.out.end_ ce
    refine bodyPost_ret (v := .agg ce) (results_cell_row rfl _ _ (w.heap.size + 1) 30 _ _ _ rfl hres Try.underlying30 rfl (show _ = some ce.size by rw [hsz]; kernel_rfl)) rfl ?_
    exact ⟨by rw [HCS.out], hend⟩
  · rfl
set_option maxRecDepth 100000 in
set_option maxHeartbeats 6400000 in
theorem bare_11_w (a n u : Nat) (m : Int) (s : Sp) (o b : Bool) (z : Nat) (p q : Int) (w : World) (cx : Array Value) (hcx : cx = cmc 11 a n u m s o b z p q) :
    Calls Try.prog 53 #[.agg cx] w fun e w' => e = .returned (.agg (cmc 11 0 n 0 0 Sp.zero false false 0 p 0)) ∧ Below w.heap.size w w' := by
  obtain ⟨kc, hkc⟩ : ∃ kc, kC 11 = kc := ⟨_, rfl⟩
  have HN := Lib.hid (NC.start w cx kc)
  have c0 : (w.alloc (.cells cx 30)).cell? ⟨w.heap.size, 0, none⟩ = some (.int .u8 11) := by rw [cell_of_row _ _ _ _ _ _ (heap_alloc_new w _), hcx]; rfl
  have c0' : ((w.alloc (.cells cx 30)).alloc (.cells zC 30)).cell? ⟨w.heap.size, 0, none⟩ = some (.int .u8 11) := by rw [cell_of_row _ _ _ _ _ _ ((Below.heap_alloc _ _ _ (by simp)).trans (heap_alloc_new w _)), hcx]; rfl
  obtain ⟨W2, hW2⟩ : ∃ W2, ((w.alloc (.cells cx 30)).alloc (.cells zC 30)).alloc (.cells kc 30) = W2 := ⟨_, rfl⟩
  rw [hW2] at HN
  have HW2 := Lib.hid hW2
  clear hW2
  have x0 : W2.cell? ⟨w.heap.size, 0, none⟩ = some (.int .u8 11) := (HN.out.xat 0).trans (by rw [hcx]; rfl)
  have x2 : W2.cell? ⟨w.heap.size, 2, none⟩ = some (.int .u32 (n : Int)) := (HN.out.xat 2).trans (by rw [hcx]; rfl)
  have y2 := (HN.out.yat 2).trans (show _ = some (Value.int .u32 0) by rw [← hkc]; rfl)
  have z2 := HN.out.thaw 2
  have x33 : W2.cell? ⟨w.heap.size, 33, none⟩ = some (.int .i64 p) := (HN.out.xat 33).trans (by rw [hcx]; rfl)
  have y33 := (HN.out.yat 33).trans (show _ = some (Value.int .i64 0) by rw [← hkc]; rfl)
  have z33 := HN.out.thaw 33
  have HZ3 := Lib.hid (show (((w.alloc (.cells cx 30)).alloc (.cells zC 30)).alloc (.cells zC 30)).heap[w.heap.size + 1 + 1]? = some (.cells zC 30) from (NC.start w cx zC).y)
  have HR := Lib.hid (show (((w.alloc (.cells cx 30)).alloc (.cells zC 30)).alloc (.cells zC 30)).setRow (w.heap.size + 1 + 1) kc = W2 from by
    have h := alloc_setRow ((w.alloc (.cells cx 30)).alloc (.cells zC 30)) zC kc 30
    rw [heap_alloc_size, heap_alloc_size] at h
    exact h.trans HW2.out)
  have HKC := Lib.hid (show (Try.prog.info? 30).map (·.size) = some kc.size ∧ zC.size = kc.size ∧ kc.all (·.oneCell') = true from by rw [← hkc]; exact ⟨by kernel_rfl, rfl, cmc_one ..⟩)
  have Hkc := Lib.hid hkc
  have Hcx := Lib.hid hcx
  clear hcx hkc
  go_enter Try.func53, Try.ntmps53
  go_upto_region 1 with (refine wpList_alloc_zero rfl 30 rfl _ hz30 ?_)
  apply RegT.wp_region_F (fun x y => x = y) (fun _ => rfl) (fun _ _ _ h k => h.trans k)
  · apply RegT.T_pure (v := .pointer (some ⟨w.heap.size, 0, none⟩)) rfl rfl rfl
    · intro W hR; go_simp
    simp only [List.set_cons_succ, List.set_cons_zero, Nat.reduceAdd]
    apply RegT.T_pure (v := .int .u8 11) rfl rfl rfl
    · intro W hR; subst hR; go_simp
    simp only [List.set_cons_succ, List.set_cons_zero, Nat.reduceAdd]
    apply RegT.T_pure (v := .agg kc) rfl rfl rfl
    · intro W hR; rw [← Hkc.out]; exact exec_build30 11 (.tmp 5) rfl rfl
    simp only [List.set_cons_succ, List.set_cons_zero, Nat.reduceAdd]
    refine RegT.T_tail (fun W hR hf => ?_)
    subst hR
    clear hf
    simp only [List.drop_succ_cons, List.drop_zero]
    refine wpList_alloc_zero rfl 30 rfl _ hz30 ?_
    refine wpList_store_rowTo rfl 30 (.tmp 3) (.tmp 6) rfl rfl (w.heap.size + 1 + 1) kc (by simp [Act.eval, Act.put]) rfl 30 zC HZ3.out HKC.out.1 HKC.out.2.1 HKC.out.2.2 ?_
    rw [HR.out]
    clear c0 c0'
    go_wp2
    go_region
    have HNe := Lib.hid (show NC w (((W2.setCell ⟨w.heap.size + 1 + 1, 2, none⟩ (.int .u32 (n : Int))).setCell ⟨w.heap.size + 1 + 1, 33, none⟩ (.int .i64 p)).drew) cx ((kc.setIfInBounds 2 (.int .u32 (n : Int))).setIfInBounds 33 (.int .i64 p)) from ((HN.out.put 2 _).put 33 _).drew)
    obtain ⟨ce, hce⟩ : ∃ ce, (kc.setIfInBounds 2 (.int .u32 (n : Int))).setIfInBounds 33 (.int .i64 p) = ce := ⟨_, rfl⟩
    rw [hce] at HNe
    have hcs : ce = cmc 11 0 n 0 0 Sp.zero false false 0 p 0 := by rw [← hce, ← Hkc.out]; rfl
    have HCS := Lib.hid hcs
    have hsz : ce.size = 35 := by rw [hcs]; rfl
    have HO := Lib.hid (show ce.all (·.oneCell') = true from by rw [hcs]; exact cmc_one ..)
    clear hce hcs
    go_wp2_with (first
      | (refine wpList_load_row rfl 30 (.tmp 3) rfl _ rfl _ _ _ _ HNe.out.y Try.underlying30 rfl (show _ = some ce.size by rw [hsz]; kernel_rfl) ?_)
      | (refine wpList_store_rowTo rfl 30 (.tmp 2) (.tmp 112) rfl rfl _ ce rfl rfl 30 zC HNe.out.rz (show _ = some ce.size by rw [hsz]; kernel_rfl) (by rw [hsz]; rfl) HO.out ?_))
    obtain ⟨hend, hres⟩ := HNe.out.end_ ce
    refine bodyPost_ret (v := .agg ce) (results_cell_row rfl _ _ (w.heap.size + 1) 30 _ _ _ rfl hres Try.underlying30 rfl (show _ = some ce.size by rw [hsz]; kernel_rfl)) rfl ?_
    exact ⟨by rw [HCS.out], hend⟩
  · rfl
set_option maxRecDepth 100000 in
set_option maxHeartbeats 6400000 in
theorem bare_12_w (a n u : Nat) (m : Int) (s : Sp) (o b : Bool) (z : Nat) (p q : Int) (w : World) (cx : Array Value) (hcx : cx = cmc 12 a n u m s o b z p q) :
    Calls Try.prog 53 #[.agg cx] w fun e w' => e = .returned (.agg (cmc 12 0 0 0 0 Sp.zero false false 0 0 0)) ∧ Below w.heap.size w w' := by
  obtain ⟨kc, hkc⟩ : ∃ kc, kC 12 = kc := ⟨_, rfl⟩
  have HN := Lib.hid (NC.start w cx kc)
  have c0 : (w.alloc (.cells cx 30)).cell? ⟨w.heap.size, 0, none⟩ = some (.int .u8 12) := by rw [cell_of_row _ _ _ _ _ _ (heap_alloc_new w _), hcx]; rfl
  have c0' : ((w.alloc (.cells cx 30)).alloc (.cells zC 30)).cell? ⟨w.heap.size, 0, none⟩ = some (.int .u8 12) := by rw [cell_of_row _ _ _ _ _ _ ((Below.heap_alloc _ _ _ (by simp)).trans (heap_alloc_new w _)), hcx]; rfl
  obtain ⟨W2, hW2⟩ : ∃ W2, ((w.alloc (.cells cx 30)).alloc (.cells zC 30)).alloc (.cells kc 30) = W2 := ⟨_, rfl⟩
  rw [hW2] at HN
  have HW2 := Lib.hid hW2
  clear hW2
  have x0 : W2.cell? ⟨w.heap.size, 0, none⟩ = some (.int .u8 12) := (HN.out.xat 0).trans (by rw [hcx]; rfl)
  have HZ3 := Lib.hid (show (((w.alloc (.cells cx 30)).alloc (.cells zC 30)).alloc (.cells zC 30)).heap[w.heap.size + 1 + 1]? = some (.cells zC 30) from (NC.start w cx zC).y)
  have HR := Lib.hid (show (((w.alloc (.cells cx 30)).alloc (.cells zC 30)).alloc (.cells zC 30)).setRow (w.heap.size + 1 + 1) kc = W2 from by
    have h := alloc_setRow ((w.alloc (.cells cx 30)).alloc (.cells zC 30)) zC kc 30
    rw [heap_alloc_size, heap_alloc_size] at h
    exact h.trans HW2.out)
  have HKC := Lib.hid (show (Try.prog.info? 30).map (·.size) = some kc.size ∧ zC.size = kc.size ∧ kc.all (·.oneCell') = true from by rw [← hkc]; exact ⟨by kernel_rfl, rfl, cmc_one ..⟩)
  have Hkc := Lib.hid hkc
  have Hcx := Lib.hid hcx
  clear hcx hkc
  go_enter Try.func53, Try.ntmps53
  go_upto_region 1 with (refine wpList_alloc_zero rfl 30 rfl _ hz30 ?_)
  apply RegT.wp_region_F (fun x y => x = y) (fun _ => rfl) (fun _ _ _ h k => h.trans k)
  · apply RegT.T_pure (v := .pointer (some ⟨w.heap.size, 0, none⟩)) rfl rfl rfl
    · intro W hR; go_simp
    simp only [List.set_cons_succ, List.set_cons_zero, Nat.reduceAdd]
    apply RegT.T_pure (v := .int .u8 12) rfl rfl rfl
    · intro W hR; subst hR; go_simp
    simp only [List.set_cons_succ, List.set_cons_zero, Nat.reduceAdd]
    apply RegT.T_pure (v := .agg kc) rfl rfl rfl
    · intro W hR; rw [← Hkc.out]; exact exec_build30 12 (.tmp 5) rfl rfl
    simp only [List.set_cons_succ, List.set_cons_zero, Nat.reduceAdd]
    refine RegT.T_tail (fun W hR hf => ?_)
    subst hR
    clear hf
    simp only [List.drop_succ_cons, List.drop_zero]
    refine wpList_alloc_zero rfl 30 rfl _ hz30 ?_
    refine wpList_store_rowTo rfl 30 (.tmp 3) (.tmp 6) rfl rfl (w.heap.size + 1 + 1) kc (by simp [Act.eval, Act.put]) rfl 30 zC HZ3.out HKC.out.1 HKC.out.2.1 HKC.out.2.2 ?_
    rw [HR.out]
    clear c0 c0'
    have HNe := Lib.hid (show NC w (W2) cx (kc) from HN.out)
    obtain ⟨ce, hce⟩ : ∃ ce, kc = ce := ⟨_, rfl⟩
    rw [hce] at HNe
    have hcs : ce = cmc 12 0 0 0 0 Sp.zero false false 0 0 0 := by rw [← hce, ← Hkc.out]; rfl
    have HCS := Lib.hid hcs
    have hsz : ce.size = 35 := by rw [hcs]; rfl
    have HO := Lib.hid (show ce.all (·.oneCell') = true from by rw [hcs]; exact cmc_one ..)
    clear hce hcs
    go_wp2_with (first
      | (refine wpList_load_row rfl 30 (.tmp 3) rfl _ rfl _ _ _ _ HNe.out.y Try.underlying30 rfl (show _ = some ce.size by rw [hsz]; kernel_rfl) ?_)
      | (refine wpList_store_rowTo rfl 30 (.tmp 2) (.tmp 112) rfl rfl _ ce rfl rfl 30 zC HNe.out.rz (show _ = some ce.size by rw [hsz]; kernel_rfl) (by rw [hsz]; rfl) HO.out ?_))
    obtain ⟨hend, hres⟩ := HNe.out.end_ ce
    refine bodyPost_ret (v := .agg ce) (results_cell_row rfl _ _ (w.heap.size + 1) 30 _ _ _ rfl hres Try.underlying30 rfl (show _ = some ce.size by rw [hsz]; kernel_rfl)) rfl ?_
    exact ⟨by rw [HCS.out], hend⟩
  · rfl
set_option maxRecDepth 100000 in
set_option maxHeartbeats 6400000 in
theorem bare_13_w (a n u : Nat) (m : Int) (s : Sp) (o b : Bool) (z : Nat) (p q : Int) (w : World) (cx : Array Value) (hcx : cx = cmc 13 a n u m s o b z p q) :
    Calls Try.prog 53 #[.agg cx] w fun e w' => e = .returned (.agg (cmc 13 a 0 0 0 Sp.zero false false 0 0 0)) ∧ Below w.heap.size w w' := by
  obtain ⟨kc, hkc⟩ : ∃ kc, kC 13 = kc := ⟨_, rfl⟩
  have HN := Lib.hid (NC.start w cx kc)
  have c0 : (w.alloc (.cells cx 30)).cell? ⟨w.heap.size, 0, none⟩ = some (.int .u8 13) := by rw [cell_of_row _ _ _ _ _ _ (heap_alloc_new w _), hcx]; rfl
  have c0' : ((w.alloc (.cells cx 30)).alloc (.cells zC 30)).cell? ⟨w.heap.size, 0, none⟩ = some (.int .u8 13) := by rw [cell_of_row _ _ _ _ _ _ ((Below.heap_alloc _ _ _ (by simp)).trans (heap_alloc_new w _)), hcx]; rfl
  obtain ⟨W2, hW2⟩ : ∃ W2, ((w.alloc (.cells cx 30)).alloc (.cells zC 30)).alloc (.cells kc 30) = W2 := ⟨_, rfl⟩
  rw [hW2] at HN
  have HW2 := Lib.hid hW2
  clear hW2
  have x0 : W2.cell? ⟨w.heap.size, 0, none⟩ = some (.int .u8 13) := (HN.out.xat 0).trans (by rw [hcx]; rfl)
  have x1 : W2.cell? ⟨w.heap.size, 1, none⟩ = some (.int .u32 (a : Int)) := (HN.out.xat 1).trans (by rw [hcx]; rfl)
  have y1 := (HN.out.yat 1).trans (show _ = some (Value.int .u32 0) by rw [← hkc]; rfl)
  have z1 := HN.out.thaw 1
  have HZ3 := Lib.hid (show (((w.alloc (.cells cx 30)).alloc (.cells zC 30)).alloc (.cells zC 30)).heap[w.heap.size + 1 + 1]? = some (.cells zC 30) from (NC.start w cx zC).y)
  have HR := Lib.hid (show (((w.alloc (.cells cx 30)).alloc (.cells zC 30)).alloc (.cells zC 30)).setRow (w.heap.size + 1 + 1) kc = W2 from by
    have h := alloc_setRow ((w.alloc (.cells cx 30)).alloc (.cells zC 30)) zC kc 30
    rw [heap_alloc_size, heap_alloc_size] at h
    exact h.trans HW2.out)
  have HKC := Lib.hid (show (Try.prog.info? 30).map (·.size) = some kc.size ∧ zC.size = kc.size ∧ kc.all (·.oneCell') = true from by rw [← hkc]; exact ⟨by kernel_rfl, rfl, cmc_one ..⟩)
  have Hkc := Lib.hid hkc
  have Hcx := Lib.hid hcx
  clear hcx hkc
  go_enter Try.func53, Try.ntmps53
  go_upto_region 1 with (refine wpList_alloc_zero rfl 30 rfl _ hz30 ?_)
  apply RegT.wp_region_F (fun x y => x = y) (fun _ => rfl) (fun _ _ _ h k => h.trans k)
  · apply RegT.T_pure (v := .pointer (some ⟨w.heap.size, 0, none⟩)) rfl rfl rfl
    · intro W hR; go_simp
    simp only [List.set_cons_succ, List.set_cons_zero, Nat.reduceAdd]
    apply RegT.T_pure (v := .int .u8 13) rfl rfl rfl
    · intro W hR; subst hR; go_simp
    simp only [List.set_cons_succ, List.set_cons_zero, Nat.reduceAdd]
    apply RegT.T_pure (v := .agg kc) rfl rfl rfl
    · intro W hR; rw [← Hkc.out]; exact exec_build30 13 (.tmp 5) rfl rfl
    simp only [List.set_cons_succ, List.set_cons_zero, Nat.reduceAdd]
    refine RegT.T_tail (fun W hR hf => ?_)
    subst hR
    clear hf
    simp only [List.drop_succ_cons, List.drop_zero]
    refine wpList_alloc_zero rfl 30 rfl _ hz30 ?_
    refine wpList_store_rowTo rfl 30 (.tmp 3) (.tmp 6) rfl rfl (w.heap.size + 1 + 1) kc (by simp [Act.eval, Act.put]) rfl 30 zC HZ3.out HKC.out.1 HKC.out.2.1 HKC.out.2.2 ?_
    rw [HR.out]
    clear c0 c0'
    have HNe := Lib.hid (show NC w (W2.setCell ⟨w.heap.size + 1 + 1, 1, none⟩ (.int .u32 (a : Int))) cx (kc.setIfInBounds 1 (.int .u32 (a : Int))) from (HN.out.put 1 _))
    obtain ⟨ce, hce⟩ : ∃ ce, kc.setIfInBounds 1 (.int .u32 (a : Int)) = ce := ⟨_, rfl⟩
    rw [hce] at HNe
    have hcs : ce = cmc 13 a 0 0 0 Sp.zero false false 0 0 0 := by rw [← hce, ← Hkc.out]; rfl
    have HCS := Lib.hid hcs
    have hsz : ce.size = 35 := by rw [hcs]; rfl
    have HO := Lib.hid (show ce.all (·.oneCell') = true from by rw [hcs]; exact cmc_one ..)
    clear hce hcs
    go_wp2_with (first
      | (refine wpList_load_row rfl 30 (.tmp 3) rfl _ rfl _ _ _ _ HNe.out.y Try.underlying30 rfl (show _ = some ce.size by rw [hsz]; kernel_rfl) ?_)
      | (refine wpList_store_rowTo rfl 30 (.tmp 2) (.tmp 112) rfl rfl _ ce rfl rfl 30 zC HNe.out.rz (show _ = some ce.size by rw [hsz]; kernel_rfl) (by rw [hsz]; rfl) HO.out ?_))
    obtain ⟨hend, hres⟩ := HNe.out.end_ ce
    refine bodyPost_ret (v := .agg ce) (results_cell_row rfl _ _ (w.heap.size + 1) 30 _ _ _ rfl hres Try.underlying30 rfl (show _ = some ce.size by rw [hsz]; kernel_rfl)) rfl ?_
    exact ⟨by rw [HCS.out], hend⟩
  · rfl
set_option maxRecDepth 100000 in
set_option maxHeartbeats 6400000 in
theorem bare_14_w (a n u : Nat) (m : Int) (s : Sp) (o b : Bool) (z : Nat) (p q : Int) (w : World) (cx : Array Value) (hcx : cx = cmc 14 a n u m s o b z p q) :
    Calls Try.prog 53 #[.agg cx] w fun e w' => e = .returned (.agg (cmc 14 0 n 0 0 Sp.zero false false 0 0 0)) ∧ Below w.heap.size w w' := by
  obtain ⟨kc, hkc⟩ : ∃ kc, kC 14 = kc := ⟨_, rfl⟩
  have HN := Lib.hid (NC.start w cx kc)
  have c0 : (w.alloc (.cells cx 30)).cell? ⟨w.heap.size, 0, none⟩ = some (.int .u8 14) := by rw [cell_of_row _ _ _ _ _ _ (heap_alloc_new w _), hcx]; rfl
  have c0' : ((w.alloc (.cells cx 30)).alloc (.cells zC 30)).cell? ⟨w.heap.size, 0, none⟩ = some (.int .u8 14) := by rw [cell_of_row _ _ _ _ _ _ ((Below.heap_alloc _ _ _ (by simp)).trans (heap_alloc_new w _)), hcx]; rfl
  obtain ⟨W2, hW2⟩ : ∃ W2, ((w.alloc (.cells cx 30)).alloc (.cells zC 30)).alloc (.cells kc 30) = W2 := ⟨_, rfl⟩
  rw [hW2] at HN
  have HW2 := Lib.hid hW2
  clear hW2
  have x0 : W2.cell? ⟨w.heap.size, 0, none⟩ = some (.int .u8 14) := (HN.out.xat 0).trans (by rw [hcx]; rfl)
  have x2 : W2.cell? ⟨w.heap.size, 2, none⟩ = some (.int .u32 (n : Int)) := (HN.out.xat 2).trans (by rw [hcx]; rfl)
  have y2 := (HN.out.yat 2).trans (show _ = some (Value.int .u32 0) by rw [← hkc]; rfl)
  have z2 := HN.out.thaw 2
  have HZ3 := Lib.hid (show (((w.alloc (.cells cx 30)).alloc (.cells zC 30)).alloc (.cells zC 30)).heap[w.heap.size + 1 + 1]? = some (.cells zC 30) from (NC.start w cx zC).y)
  have HR := Lib.hid (show (((w.alloc (.cells cx 30)).alloc (.cells zC 30)).alloc (.cells zC 30)).setRow (w.heap.size + 1 + 1) kc = W2 from by
    have h := alloc_setRow ((w.alloc (.cells cx 30)).alloc (.cells zC 30)) zC kc 30
    rw [heap_alloc_size, heap_alloc_size] at h
    exact h.trans HW2.out)
  have HKC := Lib.hid (show (Try.prog.info? 30).map (·.size) = some kc.size ∧ zC.size = kc.size ∧ kc.all (·.oneCell') = true from by rw [← hkc]; exact ⟨by kernel_rfl, rfl, cmc_one ..⟩)
  have Hkc := Lib.hid hkc
  have Hcx := Lib.hid hcx
  clear hcx hkc
  go_enter Try.func53, Try.ntmps53
  go_upto_region 1 with (refine wpList_alloc_zero rfl 30 rfl _ hz30 ?_)
  apply RegT.wp_region_F (fun x y => x = y) (fun _ => rfl) (fun _ _ _ h k => h.trans k)
  · apply RegT.T_pure (v := .pointer (some ⟨w.heap.size, 0, none⟩)) rfl rfl rfl
    · intro W hR; go_simp
    simp only [List.set_cons_succ, List.set_cons_zero, Nat.reduceAdd]
    apply RegT.T_pure (v := .int .u8 14) rfl rfl rfl
    · intro W hR; subst hR; go_simp
    simp only [List.set_cons_succ, List.set_cons_zero, Nat.reduceAdd]
    apply RegT.T_pure (v := .agg kc) rfl rfl rfl
    · intro W hR; rw [← Hkc.out]; exact exec_build30 14 (.tmp 5) rfl rfl
    simp only [List.set_cons_succ, List.set_cons_zero, Nat.reduceAdd]
    refine RegT.T_tail (fun W hR hf => ?_)
    subst hR
    clear hf
    simp only [List.drop_succ_cons, List.drop_zero]
    refine wpList_alloc_zero rfl 30 rfl _ hz30 ?_
    refine wpList_store_rowTo rfl 30 (.tmp 3) (.tmp 6) rfl rfl (w.heap.size + 1 + 1) kc (by simp [Act.eval, Act.put]) rfl 30 zC HZ3.out HKC.out.1 HKC.out.2.1 HKC.out.2.2 ?_
    rw [HR.out]
    clear c0 c0'
    have HNe := Lib.hid (show NC w (W2.setCell ⟨w.heap.size + 1 + 1, 2, none⟩ (.int .u32 (n : Int))) cx (kc.setIfInBounds 2 (.int .u32 (n : Int))) from (HN.out.put 2 _))
    obtain ⟨ce, hce⟩ : ∃ ce, kc.setIfInBounds 2 (.int .u32 (n : Int)) = ce := ⟨_, rfl⟩
    rw [hce] at HNe
    have hcs : ce = cmc 14 0 n 0 0 Sp.zero false false 0 0 0 := by rw [← hce, ← Hkc.out]; rfl
    have HCS := Lib.hid hcs
    have hsz : ce.size = 35 := by rw [hcs]; rfl
    have HO := Lib.hid (show ce.all (·.oneCell') = true from by rw [hcs]; exact cmc_one ..)
    clear hce hcs
    go_wp2_with (first
      | (refine wpList_load_row rfl 30 (.tmp 3) rfl _ rfl _ _ _ _ HNe.out.y Try.underlying30 rfl (show _ = some ce.size by rw [hsz]; kernel_rfl) ?_)
      | (refine wpList_store_rowTo rfl 30 (.tmp 2) (.tmp 112) rfl rfl _ ce rfl rfl 30 zC HNe.out.rz (show _ = some ce.size by rw [hsz]; kernel_rfl) (by rw [hsz]; rfl) HO.out ?_))
    obtain ⟨hend, hres⟩ := HNe.out.end_ ce
    refine bodyPost_ret (v := .agg ce) (results_cell_row rfl _ _ (w.heap.size + 1) 30 _ _ _ rfl hres Try.underlying30 rfl (show _ = some ce.size by rw [hsz]; kernel_rfl)) rfl ?_
    exact ⟨by rw [HCS.out], hend⟩
  · rfl
end Go.Proofs.Ytoflehlkacofjaa
