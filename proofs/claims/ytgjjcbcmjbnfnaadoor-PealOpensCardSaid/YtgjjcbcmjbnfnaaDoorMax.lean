/- The walk of the search for the greatest root; no statement of the seat is proved here. -/
import Derived.Test.YtgjjcbcmjbnfnaaDoorRootR
namespace Go.Proofs.YtgjjcbcmjbnfnaaDoor
open Go.RowKit

abbrev Rt := Nat × Nat × Nat
def Rt.row (x : Rt) : List Value := [.int .i64 x.1, .int .i64 x.2.1, .int .i64 x.2.2]
def bestK (xs : List Rt) (x0 : Rt) : Rt := xs.foldl (fun m x => if m.1 < x.1 then x else m) x0

/-- The roots lie in a row at g. -/
def RRow (w : World) (g : Nat) (xs : List Rt) : Prop := ∀ j x, xs[j]? = some x → w.cell? ⟨g, j * 3, none⟩ = some (.int .i64 x.1) ∧ w.cell? ⟨g, j * 3 + 1, none⟩ = some (.int .i64 x.2.1) ∧ w.cell? ⟨g, j * 3 + 2, none⟩ = some (.int .i64 x.2.2)

theorem RRow.below {B g : Nat} {w w' : World} {xs : List Rt} (h : RRow w g xs) (hb : Below B w w') (hg : g < B) : RRow w' g xs := fun j x hx => by
  obtain ⟨h0, h1, h2⟩ := h j x hx
  exact ⟨(hb.cell (p := ⟨g, _, none⟩) hg).trans h0, (hb.cell (p := ⟨g, _, none⟩) hg).trans h1, (hb.cell (p := ⟨g, _, none⟩) hg).trans h2⟩

structure MxI (B : Nat) (W0 : World) (g : Nat) (xs : List Rt) (m : Rt) (w : World) : Prop where
  z : w.heap[B]? = some (.cells [.int .i64 0, .int .i64 0, .int .i64 0].toArray 89)
  m : w.heap[B + 1]? = some (.cells m.row.toArray 89)
  r : RRow w g xs
  b : Below B W0 w
  s : B + 2 ≤ w.heap.size

theorem MxI.below {B : Nat} {W0 : World} {g : Nat} {xs : List Rt} {m : Rt} {w w' : World} (h : MxI B W0 g xs m w) (hb : Below w.drew.heap.size w.drew w') (hg : g < w.heap.size) : MxI B W0 g xs m w' := by
  have hs := h.s
  have hb' : Below w.heap.size w w' := ⟨hb.os, hb.tape, hb.output, hb.size, hb.block⟩
  exact ⟨(hb'.block B (by omega)).trans h.z, (hb'.block (B + 1) (by omega)).trans h.m, h.r.below hb' hg, h.b.trans (hb'.mono (by omega)), Nat.le_trans hs hb'.size⟩

theorem MxI.setM {B : Nat} {W0 : World} {g : Nat} {xs : List Rt} {m : Rt} {w : World} (h : MxI B W0 g xs m w) (x : Rt) (hg : g < B) :
    MxI B W0 g xs x (((w.setCell ⟨B + 1, 0, none⟩ (.int .i64 x.1)).setCell ⟨B + 1, 1, none⟩ (.int .i64 x.2.1)).setCell ⟨B + 1, 2, none⟩ (.int .i64 x.2.2)) := by
  have hb : ∀ k, k ≠ B + 1 → (((w.setCell ⟨B + 1, 0, none⟩ (.int .i64 x.1)).setCell ⟨B + 1, 1, none⟩ (.int .i64 x.2.1)).setCell ⟨B + 1, 2, none⟩ (.int .i64 x.2.2)).heap[k]? = w.heap[k]? := fun k hk => by
    rw [Below.heap_setCell _ _ _ _ hk, Below.heap_setCell _ _ _ _ hk, Below.heap_setCell _ _ _ _ hk]
  refine ⟨(hb B (by omega)).trans h.z, setCell_heap 2 _ (setCell_heap 1 _ (setCell_heap 0 _ h.m)), fun j y hy => ?_,
    (((Upd.setCell (S := []) (Upd.of_below h.b _) _ (.inl (by simp)) _).setCell _ (.inl (by simp)) _).setCell _ (.inl (by simp)) _).below, by simpa using h.s⟩
  have hc : ∀ j, (((w.setCell ⟨B + 1, 0, none⟩ (.int .i64 x.1)).setCell ⟨B + 1, 1, none⟩ (.int .i64 x.2.1)).setCell ⟨B + 1, 2, none⟩ (.int .i64 x.2.2)).cell? ⟨g, j, none⟩ = w.cell? ⟨g, j, none⟩ := fun j => World.cell?_of_block (hb g (by omega))
  rw [hc, hc, hc]
  exact h.r j y hy

theorem best_lt (xs : List Rt) (x0 : Rt) (b : Nat) (h : ∀ x ∈ x0 :: xs, x.1 < b) : (bestK xs x0).1 < b := by
  induction xs generalizing x0 with
  | nil => exact h x0 (by simp)
  | cons x xs ih =>
    refine ih (if x0.1 < x.1 then x else x0) (fun y hy => ?_)
    rcases List.mem_cons.1 hy with rfl | hy
    · split <;> exact h _ (by simp)
    · exact h y (by simp [hy])

set_option maxHeartbeats 4000000 in
set_option maxRecDepth 100000 in
theorem max_any (w : World) (g cap : Nat) (x0 : Rt) (xs : List Rt) (hn : xs.length ≤ 1) (hcap : xs.length + 1 ≤ cap) (hr : RRow w g (x0 :: xs)) (hbd : ∀ x ∈ x0 :: xs, x.1 < 281474976710656) :
    Calls Tryd.prog 62 #[.slice (some ⟨g, 0, none⟩) (xs.length + 1 : Nat) cap, .func (.func 63) #[] #[]] w fun e w' => e = .returned (.agg (bestK xs x0).row.toArray) ∧ Below w.heap.size w w' := by
  obtain ⟨n, hnn⟩ : ∃ n, n = xs.length + 1 := ⟨_, rfl⟩
  rw [← hnn] at hcap ⊢
  obtain ⟨h0, h1, h2⟩ := hr 0 x0 rfl
  have hgw : g < w.heap.size := World.block_lt_of_cell? w _ h0
  have hn1 : ¬ (n : Int) < 1 := by omega
  have hn2 : (0 : Int) < n := by omega
  have c0 : (w.alloc (.cells #[.int .i64 0, .int .i64 0, .int .i64 0] 89)).cell? ⟨g, 0, none⟩ = some (.int .i64 x0.1) := by rw [World.cell?_alloc_lt _ _ _ hgw]; simpa using h0
  have c1 : (w.alloc (.cells #[.int .i64 0, .int .i64 0, .int .i64 0] 89)).cell? ⟨g, 1, none⟩ = some (.int .i64 x0.2.1) := by rw [World.cell?_alloc_lt _ _ _ hgw]; simpa using h1
  have c2 : (w.alloc (.cells #[.int .i64 0, .int .i64 0, .int .i64 0] 89)).cell? ⟨g, 2, none⟩ = some (.int .i64 x0.2.2) := by rw [World.cell?_alloc_lt _ _ _ hgw]; simpa using h2
  have HR := Lib.hid hr
  have HN := Lib.hid hnn
  clear hr h0 h1 h2 hnn
  go_enter Tryd.func62, Tryd.ntmps62
  go_wp2_with fail
  have HI0 : Hid (MxI w.heap.size w g (x0 :: xs) x0 ((w.alloc (.cells #[.int .i64 0, .int .i64 0, .int .i64 0] 89)).alloc (.cells #[.int .i64 x0.1, .int .i64 x0.2.1, .int .i64 x0.2.2] 89))) := by
    have hb := ((Below.refl w.heap.size w).alloc (Nat.le_refl _) (.cells #[.int .i64 0, .int .i64 0, .int .i64 0] 89)).alloc (by simp) (.cells #[.int .i64 x0.1, .int .i64 x0.2.1, .int .i64 x0.2.2] 89)
    exact ⟨by rw [Below.heap_alloc _ _ _ (by simp), alloc_new _ rfl], by rw [alloc_new _ (by simp)]; rfl, HR.out.below hb hgw, hb, by simp⟩
  clear c0 c1 c2
  go_loopw [6] (fun i wr => ∃ k : Nat, 1 ≤ k ∧ k ≤ n ∧ i = .int .i64 k ∧ Hid (MxI w.heap.size w g (x0 :: xs) (bestK (xs.take (k - 1)) x0) wr))
    (fun i _ => n - (intOf i).toNat)
  case atStart => exact ⟨1, by omega, by omega, rfl, HI0⟩
  case round =>
    clear HI0
    obtain ⟨k, hk1, hk, rfl, HI⟩ := hrel
    by_cases hlt : k < n
    · have hkx : k - 1 < xs.length := by have := HN.out; omega
      obtain ⟨x, hx⟩ : ∃ x, x = xs[k - 1] := ⟨_, rfl⟩
      have hxk : (x0 :: xs)[k]? = some x := by
        obtain ⟨j, rfl⟩ : ∃ j, k = j + 1 := ⟨k - 1, by omega⟩
        rw [List.getElem?_cons_succ, List.getElem?_eq_getElem (by simpa using hkx), hx]; rfl
      have hbest : bestK (xs.take (k + 1 - 1)) x0 = (if (bestK (xs.take (k - 1)) x0).1 < x.1 then x else bestK (xs.take (k - 1)) x0) := by
        rw [show k + 1 - 1 = (k - 1) + 1 by omega, List.take_succ_eq_append_getElem hkx, bestK, List.foldl_append, ← hx]; rfl
      have hbx : x.1 < 281474976710656 := hbd x (List.mem_of_getElem? hxk)
      obtain ⟨m, hm⟩ : ∃ m, m = bestK (xs.take (k - 1)) x0 := ⟨_, rfl⟩
      rw [← hm] at HI hbest
      have hbm : m.1 < 281474976710656 := by
        rw [hm]; refine best_lt _ _ _ (fun y hy => hbd y ?_)
        rcases List.mem_cons.1 hy with rfl | hy
        · simp
        · exact List.mem_cons_of_mem _ (List.mem_of_mem_take hy)
      have HBE := Lib.hid hbest
      have HM := Lib.hid hm
      obtain ⟨e0, e1, e2⟩ := HI.out.r k x hxk
      have m0 : wr.cell? ⟨w.heap.size + 1, 0, none⟩ = some (.int .i64 m.1) := by rw [cell_of_heap HI.out.m]; rfl
      have m1 : wr.cell? ⟨w.heap.size + 1, 1, none⟩ = some (.int .i64 m.2.1) := by rw [cell_of_heap HI.out.m]; rfl
      have m2 : wr.cell? ⟨w.heap.size + 1, 2, none⟩ = some (.int .i64 m.2.2) := by rw [cell_of_heap HI.out.m]; rfl
      have hkn : (k : Int) < n := by omega
      have hk0 : (0 : Int) ≤ k := by omega
      clear hx hm hxk hbest
      have hgs : g < wr.heap.size := World.block_lt_of_cell? wr _ e0
      have hss := HI.out.s
      have HK0 : Hid ((wr.drew.cell? ⟨g, k * 3, none⟩ = some (.int .i64 x.1) ∧ wr.drew.cell? ⟨g, k * 3 + 1, none⟩ = some (.int .i64 x.2.1) ∧ wr.drew.cell? ⟨g, k * 3 + 2, none⟩ = some (.int .i64 x.2.2)) ∧
        wr.drew.cell? ⟨w.heap.size + 1, 0, none⟩ = some (.int .i64 m.1) ∧ wr.drew.cell? ⟨w.heap.size + 1, 1, none⟩ = some (.int .i64 m.2.1) ∧ wr.drew.cell? ⟨w.heap.size + 1, 2, none⟩ = some (.int .i64 m.2.2)) := ⟨⟨e0, e1, e2⟩, m0, m1, m2⟩
      have HK1 : Hid (∀ W, Below wr.drew.heap.size wr.drew W → (W.cell? ⟨g, k * 3, none⟩ = some (.int .i64 x.1) ∧ W.cell? ⟨g, k * 3 + 1, none⟩ = some (.int .i64 x.2.1) ∧ W.cell? ⟨g, k * 3 + 2, none⟩ = some (.int .i64 x.2.2)) ∧
        W.cell? ⟨w.heap.size + 1, 0, none⟩ = some (.int .i64 m.1) ∧ W.cell? ⟨w.heap.size + 1, 1, none⟩ = some (.int .i64 m.2.1) ∧ W.cell? ⟨w.heap.size + 1, 2, none⟩ = some (.int .i64 m.2.2)) := by
        intro W hb
        have h1 : ∀ j, W.cell? ⟨g, j, none⟩ = wr.cell? ⟨g, j, none⟩ := fun j => hb.cell (p := ⟨g, j, none⟩) hgs
        have h2 : ∀ j, W.cell? ⟨w.heap.size + 1, j, none⟩ = wr.cell? ⟨w.heap.size + 1, j, none⟩ := fun j => hb.cell (p := ⟨w.heap.size + 1, j, none⟩) (by show w.heap.size + 1 < _; rw [World.size_drew]; omega)
        rw [h1, h1, h1, h2, h2, h2]
        exact ⟨⟨e0, e1, e2⟩, m0, m1, m2⟩
      go_wp2_with fail
      go_region_held3 (fun W => (W.cell? ⟨g, k * 3, none⟩ = some (.int .i64 x.1) ∧ W.cell? ⟨g, k * 3 + 1, none⟩ = some (.int .i64 x.2.1) ∧ W.cell? ⟨g, k * 3 + 2, none⟩ = some (.int .i64 x.2.2)) ∧
        W.cell? ⟨w.heap.size + 1, 0, none⟩ = some (.int .i64 m.1) ∧ W.cell? ⟨w.heap.size + 1, 1, none⟩ = some (.int .i64 m.2.1) ∧ W.cell? ⟨w.heap.size + 1, 2, none⟩ = some (.int .i64 m.2.2))
        (first | assumption | exact HK0.out)
        (first | (go_at_call 63; refine (cmp_any _ _ _ _ _ _ _ (by omega) (by omega)).mono ?_; rintro e W ⟨rfl, hbW⟩; have hKW := HK1.out W hbW))
      have HIW := Lib.hid (HI.out.below hbW hgs)
      have q0 : W.frozen? ⟨w.heap.size + 1, 0, none⟩ = false := frozen_of_heap HIW.out.m
      have q1 : W.frozen? ⟨w.heap.size + 1, 1, none⟩ = false := frozen_of_heap HIW.out.m
      have q2 : W.frozen? ⟨w.heap.size + 1, 2, none⟩ = false := frozen_of_heap HIW.out.m
      clear HK0 HK1 hbW e0 e1 e2 m0 m1 m2 HI
      obtain ⟨⟨e0, e1, e2⟩, m0, m1, m2⟩ := hKW
      by_cases hc : m.1 < x.1
      · go_wp2_with fail
        have HIW2 := Lib.hid (HIW.out.setM x hgw)
        go_roundw
        case rel => exact ⟨k + 1, by omega, by omega, by go_num, by
            show MxI _ _ _ _ _ _
            rw [HBE.out, if_pos hc]; exact HIW2.out⟩
        case measure => simp [intOf]; omega
      · go_wp2_with fail
        go_roundw
        case rel => exact ⟨k + 1, by omega, by omega, by go_num, by
            show MxI _ _ _ _ _ _
            rw [HBE.out, if_neg hc]; exact HIW.out⟩
        case measure => simp [intOf]; omega
    · have hkn : k = n := by omega
      subst hkn
      have e : xs.take (k - 1) = xs := List.take_of_length_le (by have := HN.out; omega)
      rw [e] at HI
      have z0 : wr.cell? ⟨w.heap.size, 0, none⟩ = some (.int .i64 0) := by rw [cell_of_heap HI.out.z]; rfl
      have z1 : wr.cell? ⟨w.heap.size, 1, none⟩ = some (.int .i64 0) := by rw [cell_of_heap HI.out.z]; rfl
      have z2 : wr.cell? ⟨w.heap.size, 2, none⟩ = some (.int .i64 0) := by rw [cell_of_heap HI.out.z]; rfl
      have q0 : wr.frozen? ⟨w.heap.size, 0, none⟩ = false := frozen_of_heap HI.out.z
      have q1 : wr.frozen? ⟨w.heap.size, 1, none⟩ = false := frozen_of_heap HI.out.z
      have q2 : wr.frozen? ⟨w.heap.size, 2, none⟩ = false := frozen_of_heap HI.out.z
      obtain ⟨m, hm⟩ : ∃ m, m = bestK xs x0 := ⟨_, rfl⟩
      rw [← hm] at HI
      have HM := Lib.hid hm
      clear hm
      have m0 : wr.cell? ⟨w.heap.size + 1, 0, none⟩ = some (.int .i64 m.1) := by rw [cell_of_heap HI.out.m]; rfl
      have m1 : wr.cell? ⟨w.heap.size + 1, 1, none⟩ = some (.int .i64 m.2.1) := by rw [cell_of_heap HI.out.m]; rfl
      have m2 : wr.cell? ⟨w.heap.size + 1, 2, none⟩ = some (.int .i64 m.2.2) := by rw [cell_of_heap HI.out.m]; rfl
      have HF : Hid (∀ W, ((wr.setCell ⟨w.heap.size, 0, none⟩ (.int .i64 m.1)).setCell ⟨w.heap.size, 1, none⟩ (.int .i64 m.2.1)).setCell ⟨w.heap.size, 2, none⟩ (.int .i64 m.2.2) = W →
          W.heap[w.heap.size]? = some (.cells m.row.toArray 89) ∧ Below w.heap.size w W) := by
        rintro W rfl
        exact ⟨setCell_heap 2 _ (setCell_heap 1 _ (setCell_heap 0 _ HI.out.z)), (((Upd.setCell (S := []) (Upd.of_below HI.out.b _) _ (.inl (by simp)) _).setCell _ (.inl (by simp)) _).setCell _ (.inl (by simp)) _).below⟩
      go_wp2_with fail
      generalize hW : ((wr.setCell ⟨w.heap.size, 0, none⟩ (.int .i64 m.1)).setCell ⟨w.heap.size, 1, none⟩ (.int .i64 m.2.1)).setCell ⟨w.heap.size, 2, none⟩ (.int .i64 m.2.2) = W
      have HF2 := HF.out _ hW
      clear hW HF
      refine bodyPost_ret (results_cell_row rfl _ W w.heap.size 89 _ _ _ rfl HF2.1 Tryd.underlying89 rfl (by kernel_rfl)) rfl ⟨?_, HF2.2⟩
      rw [← HM.out]
end Go.Proofs.YtgjjcbcmjbnfnaaDoor
