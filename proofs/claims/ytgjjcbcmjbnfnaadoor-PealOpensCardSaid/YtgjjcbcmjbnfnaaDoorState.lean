/- The walk of state and of Same; no statement of the seat is proved here. -/
import Derived.Test.YtgjjcbcmjbnfnaaDoorPKept
import Derived.Deep.DeepCutAuto
import Derived.Deep.AppendLies
import Derived.Deep.RegionLaw
namespace Go.Proofs.YtgjjcbcmjbnfnaaDoor
open Go.RowKit

theorem load53 {w : World} {g : Nat} {t : TypeId} {a b c : Value} (h : w.heap[g]? = some (.cells [a, b, c].toArray t)) : (loadVar 53 ⟨g, 0, none⟩).run Tryd.prog w = .ok (.agg [a, b, c].toArray) w :=
  run_loadVar_row w g t 53 _ _ _ h Tryd.underlying53 rfl (by kernel_rfl)

/-- What state has gathered after k entries. -/
structure StI (w1 : World) (a b : Value) (ts : List ByteArray) (k : Nat) (wr : World) : Prop where
  row : ∃ v, wr.heap[w1.heap.size]? = some (.cells [a, v, b].toArray 53) ∧ wr.ownsRow (w1.heap.size + 1) 9 1 v k (strs (ts.take k))
  b : Below w1.heap.size w1 wr

theorem StI.start (w1 : World) (a b : Value) (ts : List ByteArray) : StI w1 a b ts 0 (w1.alloc (.cells [a, .slice none 0 0, b].toArray 53)) :=
  ⟨⟨.slice none 0 0, alloc_new _ rfl, World.ownsRow_nil _ _ _ _⟩, (Below.refl _ _).alloc (Nat.le_refl _) _⟩

theorem StI.drewN {w1 : World} {a b : Value} {ts : List ByteArray} {k : Nat} {wr : World} (h : StI w1 a b ts k wr) (n : Nat) : StI w1 a b ts k (wr.drewN n) := ⟨h.row, below_drewN h.b n⟩

theorem StI.kept {w1 : World} {a b v : Value} {ts : List ByteArray} {k n : Nat} {wr w5 : World} {o : Obj} (hr : wr.heap[w1.heap.size]? = some (.cells [a, v, b].toArray 53)) (hown : wr.ownsRow (w1.heap.size + 1) 9 1 v k (strs (ts.take k)))
    (hgrow : ((wr.drewN n).alloc o).grownBy w5 v.ownBlock) : w5.cell? ⟨w1.heap.size, 1, none⟩ = some v ∧ w5.frozen? ⟨w1.heap.size, 1, none⟩ = false := by
  have hlt := heap_lt hr
  have hne : v.ownBlock ≠ some w1.heap.size := fun e => by have := (hown.lt _ e).1; omega
  have h5 : w5.heap[w1.heap.size]? = some (.cells [a, v, b].toArray 53) := by
    rw [hgrow.block _ (by simp; omega) (fun e => hne e.symm), Below.heap_alloc _ _ _ (by simpa using hlt)]; exact hr
  exact ⟨by rw [cell_of_heap h5]; rfl, frozen_of_heap h5⟩

theorem StI.step {w1 : World} {a b v : Value} {ts : List ByteArray} {k : Nat} {wr w5 : World} {v5 : Value} {o : Obj} (h : StI w1 a b ts k wr) (hk : k < ts.length) (hr : wr.heap[w1.heap.size]? = some (.cells [a, v, b].toArray 53)) (hown : wr.ownsRow (w1.heap.size + 1) 9 1 v k (strs (ts.take k)))
    (hown5 : w5.ownsRow (w1.heap.size + 1) 9 1 v5 (k + 1) (strs (ts.take k) ++ [.string ts[k]])) (hgrow : (wr.alloc o).grownBy w5 v.ownBlock) : StI w1 a b ts (k + 1) (w5.setCell ⟨w1.heap.size, 1, none⟩ v5) := by
  have hs := h.b.size
  have hlt := heap_lt hr
  have hne : v.ownBlock ≠ some w1.heap.size := fun e => by have := (hown.lt _ e).1; omega
  have h5 : w5.heap[w1.heap.size]? = some (.cells [a, v, b].toArray 53) := by
    rw [hgrow.block _ (by simp; omega) (fun e => hne e.symm), Below.heap_alloc _ _ _ hlt]; exact hr
  have hb5 : Below w1.heap.size w1 w5 := (h.b.alloc hs o).grown hgrow (by simp; omega) (fun g hg => by have := (hown.lt g hg).1; omega)
  refine ⟨⟨v5, by rw [setCell_heap 1 _ h5]; rfl, ?_⟩, hb5.setCell (by simp) _⟩
  rw [List.take_succ_eq_append_getElem hk]
  have e : strs (ts.take k ++ [ts[k]]) = strs (ts.take k) ++ [.string ts[k]] := by rw [strs, List.map_append]; rfl
  rw [e]
  refine own_keep hown5 (fun g cur hg he => Below.heap_setCell _ _ _ _ (fun e => ?_))
  have := (own_block hown5 he).1
  have e' : g = w1.heap.size := e
  omega

set_option maxHeartbeats 4000000 in
set_option maxRecDepth 100000 in
theorem state_any (p b : Nat) (w : World) (L : Ls) (ts : List ByteArray) (hL : IsList w p b L ts) (hts : ts.length ≤ 40) (htl : ts.length ≤ L.last) (hl : L.last < 281474976710656) :
    Calls Tryd.prog 20 #[.pointer (some ⟨p, 0, none⟩)] w fun e w' => ∃ v, e = .returned (.tuple #[.agg #[.int .i64 L.last, v, .int .i64 L.mark], .bool true]) ∧ w'.ownsRow w.heap.size 9 1 v ts.length (strs ts) ∧ Below w.heap.size w w' := by
  obtain ⟨i0, hi, hz0, hz1, hz2⟩ := info_parts Tryd.info9
  have HK := Lib.hid (kept_any p b (w.alloc (.cells #[.int .i64 0, .slice none 0 0, .int .i64 0] 53)) L ts (hL.keep ((Upd.refl w.heap.size [] w).alloc (Nat.le_refl _) _) (Nat.le_refl _) (by simp) (by simp)) hts hl)
  have HL := Lib.hid hL
  clear hL
  go_enter Tryd.func20, Tryd.ntmps20
  go_wp2_with fail
  refine HK.out.mono ?_
  rintro e w1 ⟨v1, rfl, hown1, hb1⟩
  obtain ⟨a1, c1, rfl⟩ := own_form hown1
  have hb0 : Below w.heap.size w w1 := ((Below.refl w.heap.size w).alloc (Nat.le_refl _) _).trans (hb1.mono (by simp))
  have hL1 := HL.out.keep (Upd.of_below hb0 []) (Nat.le_refl _) (by simp) (by simp)
  have HLa := Lib.hid (last_any p b w1 L ts hL1)
  have HMa := Lib.hid (marked_any p b w1 L ts hL1)
  have hr1 : w1.heap[w.heap.size]? = some (.cells [.int .i64 0, .slice none 0 0, .int .i64 0].toArray 53) := (hb1.block w.heap.size (by simp)).trans (alloc_new _ rfl)
  have hsz1 : w.heap.size + 1 ≤ w1.heap.size := by have := hb1.size; simpa using this
  have HB0 := Lib.hid hb0
  have HR1 := Lib.hid hr1
  have HO1 := Lib.hid hown1
  have HEb := Lib.hid hb1
  clear hL1 hown1 hb1 hb0 hr1 HK
  have hle : ((ts.length : Nat) : Int) ≤ (L.last : Int) := by omega
  have hnl : ¬ L.last < ts.length := by omega
  go_wp2_with (first | (go_at_call 14; refine HLa.out.mono ?_; rintro e w' ⟨rfl, rfl⟩) | (go_at_call 15; refine HMa.out.mono ?_; rintro e w' ⟨rfl, rfl⟩))
  have hE : Hid (EntI a1 ((L.last : Int) - ts.length + 1) ts (w.alloc (.cells #[.int .i64 0, .slice none 0 0, .int .i64 0] 53)) 0 w1) := EntI.start HO1.out HEb.out
  go_loopw [7] (fun i wr => ∃ k : Nat, k ≤ ts.length ∧ i = .int .i64 k ∧ Hid (StI w1 (.int .i64 L.last) (.int .i64 L.mark) ts k wr)) (fun i _ => ts.length - (intOf i).toNat)
  case atStart => exact ⟨0, Nat.zero_le _, rfl, StI.start _ _ _ _⟩
  case round =>
    obtain ⟨k, hk, rfl, HS⟩ := hrel
    by_cases hlt : k < ts.length
    · obtain ⟨g, ha, hgw, d1, d2, _⟩ := hE.out.1 k ts[k] (Nat.zero_le _) (List.getElem?_eq_getElem hlt)
      subst ha
      have hgl : g < w1.heap.size := World.block_lt_of_cell? w1 _ d1
      have e1 : wr.cell? ⟨g, k * 2, none⟩ = some (.int .i64 ((L.last : Int) - ts.length + 1 + k)) := by rw [HS.out.b.cell (p := ⟨g, k * 2, none⟩) hgl]; exact d1
      have e2 : wr.cell? ⟨g, k * 2 + 1, none⟩ = some (.string ts[k]) := by rw [HS.out.b.cell (p := ⟨g, k * 2 + 1, none⟩) hgl]; exact d2
      obtain ⟨v, hr, hown⟩ := HS.out.row
      have s0 : wr.cell? ⟨w1.heap.size, 0, none⟩ = some (.int .i64 L.last) := by rw [cell_of_heap hr]; rfl
      have s1 : wr.cell? ⟨w1.heap.size, 1, none⟩ = some v := by rw [cell_of_heap hr]; rfl
      have hw1 : IntKind.i64.wrap ((L.last : Int) - (ts.length : Int)) = (L.last : Int) - ts.length := by rw [IntKind.wrap_i64]; omega
      have hw2 : IntKind.i64.wrap ((L.last : Int) - (ts.length : Int) + 1) = (L.last : Int) - ts.length + 1 := by rw [IntKind.wrap_i64]; omega
      have hw3 : IntKind.i64.wrap ((L.last : Int) - (ts.length : Int) + 1 + (k : Int)) = (L.last : Int) - ts.length + 1 + k := by rw [IntKind.wrap_i64]; omega
      have HR := Lib.hid hr
      have HOw := Lib.hid hown
      clear hr hown d1 d2
      go_wp2_with fail
      go_quiet (fail)
      clear hw1 hw2 hw3
      obtain ⟨av, nv, rfl⟩ := own_form HOw.out
      have fz : wr.frozen? ⟨w1.heap.size, 1, none⟩ = false := frozen_of_heap HR.out
      have HSt : Hid (∀ (g5 c5 : Nat) (w5 : World) (o : Obj) (n : Nat), _ → _ → StI w1 (.int .i64 L.last) (.int .i64 L.mark) ts (k + 1) (w5.setCell ⟨w1.heap.size, 1, none⟩ (.slice (some ⟨g5, 0, none⟩) (k + 1) c5))) :=
        Lib.hid (fun g5 c5 w5 o n h1 (h2 : ((wr.drewN n).alloc o).grownBy w5 _) => StI.step (HS.out.drewN n) hlt HR.out HOw.out (v5 := .slice (some ⟨g5, 0, none⟩) (k + 1) c5) (o := o) h1 h2)
      have hsw := HS.out.b.size
      have hsl := heap_lt HR.out
      have qa : ∀ o, ((wr.drewN (nq + 1)).alloc o).cell? ⟨w1.heap.size, 1, none⟩ = some (.slice av k nv) := fun o => by rw [World.cell?_alloc_some _ _ _ (by show (wr.cell? _).isSome = true; rw [s1]; rfl)]; exact s1
      have qb : ∀ o, ((wr.drewN (nq + 1)).alloc o).cell? ⟨g, k * 2 + 1, none⟩ = some (.string ts[k]) := fun o => by rw [World.cell?_alloc_some _ _ _ (by show (wr.cell? _).isSome = true; rw [e2]; rfl)]; exact e2
      go_upto_region 10 with fail
      go_region_law ((refine step_append_lies _ (by rfl) _ _ 22 (by rfl) (w1.heap.size + 1) 9 i0 (.string ByteArray.empty) 1 16 Tryd.underlying22 hi hz0 hz1 hz2 rfl (by decide) (.slice av k nv) k (strs (ts.take k)) (by rfl) (HOw.out.alloc _) ⟨wr.heap.size, 0, none⟩ 1 1 [.string ts[k]] (by rfl) rfl (cell_one_new _ _ _) (by simp [Value.oneCell']) (by decide) (by simp [maxLen]; omega) (by omega) (by simp; omega) (wr.heap.size + 1) (by simp) ?_; intro g5 c5 w5 hown5 hgrow5 _ hlt5; obtain ⟨x5, y5⟩ := StI.kept (n := nq + 1) HR.out HOw.out hgrow5))
      all_goals
        have HS5 : Hid (StI w1 (.int .i64 L.last) (.int .i64 L.mark) ts (k + 1) (w5.setCell ⟨w1.heap.size, 1, none⟩ (.slice (some ⟨g5, 0, none⟩) (k + 1) c5))) := HSt.out _ _ _ _ _ hown5 hgrow5
        clear hown5 hgrow5 qa qb x5 y5
        go_wp2
        go_roundw
        case rel => exact ⟨k + 1, by omega, by go_num, HS5⟩
        case measure => simp [intOf]; omega
    · have hkn : k = ts.length := by omega
      subst hkn
      obtain ⟨v, hr, hown⟩ := HS.out.row
      rw [List.take_of_length_le (Nat.le_refl _)] at hown
      obtain ⟨av, cv, rfl⟩ := own_form hown
      have hwr : w.heap.size + 1 ≤ wr.heap.size := Nat.le_trans hsz1 HS.out.b.size
      have s0 : wr.cell? ⟨w1.heap.size, 0, none⟩ = some (.int .i64 L.last) := by rw [cell_of_heap hr]; rfl
      have s1 : wr.cell? ⟨w1.heap.size, 1, none⟩ = some (.slice av ts.length cv) := by rw [cell_of_heap hr]; rfl
      have s2 : wr.cell? ⟨w1.heap.size, 2, none⟩ = some (.int .i64 L.mark) := by rw [cell_of_heap hr]; rfl
      have hrr : wr.heap[w.heap.size]? = some (.cells [.int .i64 0, .slice none 0 0, .int .i64 0].toArray 53) := (HS.out.b.block _ (by omega)).trans HR1.out
      have t0 : wr.cell? ⟨w.heap.size, 0, none⟩ = some (.int .i64 0) := by rw [cell_of_heap hrr]; rfl
      have t1 : wr.cell? ⟨w.heap.size, 1, none⟩ = some (.slice none 0 0) := by rw [cell_of_heap hrr]; rfl
      have t2 : wr.cell? ⟨w.heap.size, 2, none⟩ = some (.int .i64 0) := by rw [cell_of_heap hrr]; rfl
      have z0 : wr.frozen? ⟨w.heap.size, 0, none⟩ = false := frozen_of_heap hrr
      have z1 : wr.frozen? ⟨w.heap.size, 1, none⟩ = false := frozen_of_heap hrr
      have z2 : wr.frozen? ⟨w.heap.size, 2, none⟩ = false := frozen_of_heap hrr
      have HRR := Lib.hid hrr
      have HOw := Lib.hid hown
      clear hr hown hrr
      go_wp2
      generalize hW : ((wr.setCell ⟨w.heap.size, 0, none⟩ (.int .i64 L.last)).setCell ⟨w.heap.size, 1, none⟩ (.slice av ts.length cv)).setCell ⟨w.heap.size, 2, none⟩ (.int .i64 L.mark) = W
      have hF : W.heap[w.heap.size]? = some (.cells [.int .i64 L.last, .slice av ts.length cv, .int .i64 L.mark].toArray 53) := by
        rw [← hW, setCell_heap 2 _ (setCell_heap 1 _ (setCell_heap 0 _ HRR.out))]; rfl
      have hU : Upd w.heap.size [] wr W := by
        rw [← hW]
        exact (((Upd.refl w.heap.size [] wr).setCell ⟨w.heap.size, 0, none⟩ (.inl (Nat.le_refl _)) _).setCell ⟨w.heap.size, 1, none⟩ (.inl (Nat.le_refl _)) _).setCell ⟨w.heap.size, 2, none⟩ (.inl (Nat.le_refl _)) _
      have hO : W.ownsRow w.heap.size 9 1 (.slice av ts.length cv) ts.length (strs ts) := by
        refine ownsRow_base (base := w1.heap.size + 1) (own_keep HOw.out (fun g cur hg he => ?_)) (by omega)
        rw [← hW]
        have := (own_block HOw.out he).1
        rw [Below.heap_setCell _ _ _ _ (by show g ≠ w.heap.size; omega), Below.heap_setCell _ _ _ _ (by show g ≠ w.heap.size; omega), Below.heap_setCell _ _ _ _ (by show g ≠ w.heap.size; omega)]
      clear hW
      refine bodyPost_ret (res_ct rfl _ W w.heap.size _ rfl (load53 hF)) rfl ⟨_, rfl, hO, ?_⟩
      exact (HB0.out.trans (HS.out.b.mono (by omega))).trans hU.below
end Go.Proofs.YtgjjcbcmjbnfnaaDoor
