/- The walk of a list's Sync; no statement of the seat is proved here. -/
import Derived.Test.YtgjjcbcmjbnfnaaDoorWrite
namespace Go.Proofs.YtgjjcbcmjbnfnaaDoor
open Go.RowKit

theorem lsync_closed (p b : Nat) (w : World) (L : Ls) (ts : List ByteArray) (s : Dk) (hL : IsList w p b L ts) (hD : IsDisk w b s) (hw : L.works s = false) :
    Calls Tryd.prog 24 #[.pointer (some ⟨p, 0, none⟩)] w fun e w' => e = .returned (.int .i64 6) ∧ ∃ n, w' = w.drewN n := by
  have HW := Lib.hid (works_any p b w L ts s hL hD)
  rw [hw] at HW
  clear hL hD hw
  go_enter Tryd.func24, Tryd.ntmps24
  go_wp2_with (go_at_call 45; refine HW.out.mono ?_; rintro e w' ⟨rfl, n, rfl⟩)
  go_ret
  exact ⟨rfl, _, rfl⟩

theorem lsync_clean (p b : Nat) (w : World) (L : Ls) (ts : List ByteArray) (s : Dk) (hL : IsList w p b L ts) (hD : IsDisk w b s) (hw : L.works s = true) (hd : L.dirty = false) :
    Calls Tryd.prog 24 #[.pointer (some ⟨p, 0, none⟩)] w fun e w' => e = .returned (.int .i64 0) ∧ ∃ n, w' = w.drewN n := by
  have HW := Lib.hid (works_any p b w L ts s hL hD)
  rw [hw] at HW
  have c8 := hL.c8
  rw [hd] at c8
  clear hL hD hw hd
  go_enter Tryd.func24, Tryd.ntmps24
  go_wp2_with (go_at_call 45; refine HW.out.mono ?_; rintro e w' ⟨rfl, n, rfl⟩)
  go_ret
  exact ⟨rfl, _, rfl⟩

theorem lsync_any (p b : Nat) (w : World) (L : Ls) (ts : List ByteArray) (s : Dk) (hL : IsList w p b L ts) (hD : IsDisk w b s) (hw : L.works s = true) (hdy : L.dirty = true) (hd : s.down = false) (hl : s.left = 0) (hr : L.root.1 < 140737488355328)
    (hlast : L.last < 281474976710656) (hmark : L.mark < 281474976710656) (hts : ts.length ≤ 40) (h24 : ∀ t ∈ ts, t.size ≤ 24) :
    Calls Tryd.prog 24 #[.pointer (some ⟨p, 0, none⟩)] w fun e w' => e = .returned (.int .i64 0) ∧ ∃ bm, w.heap.size ≤ bm ∧
      IsDisk w' b { s with bs := wroteBs s.bs (L.root.1 + 1) (cbytes L.last L.mark ts), bm := bm, sy := [] } ∧
      IsList w' p b { L with root := (L.root.1 + 1, (cbytes L.last L.mark ts).length, sum48 (cbytes L.last L.mark ts)), dirty := false, broken := false } ts ∧ Upd w.heap.size [p, b, s.bm] w w' := by
  have HW := Lib.hid (works_any p b w L ts s hL hD)
  rw [hw] at HW
  have c8 := hL.c8
  rw [hdy] at c8
  have HWr := Lib.hid (fun n => write49_any p b (w.drewN n) L ts s ⟨hL.heap, hL.own⟩ ⟨hD.heap, hD.len, hD.map.of_heap rfl, hD.ne⟩ hd hl hr hlast hmark hts h24)
  have hne : p ≠ b := by
    intro e
    have h1 := hD.heap
    rw [← e, hL.heap] at h1
    have h2 := congrArg (fun o => match o with | some (Obj.cells _ t _) => t | _ => 0) h1
    simp at h2
  have hplt := hL.lt
  clear hL hD hw hdy
  go_enter Tryd.func24, Tryd.ntmps24
  go_wp2_with (go_at_call 45; refine HW.out.mono ?_; rintro e w' ⟨rfl, n, rfl⟩)
  refine (HWr.out n).mono ?_
  rintro e w1 ⟨rfl, bm, hbm, hD1, hL1, hU1⟩
  have c1 := hL1.c1
  have f1 := hL1.fr 1
  have HL1 := Lib.hid hL1
  have HD1 := Lib.hid hD1
  have HU1 := Lib.hid hU1
  clear hL1 hD1 hU1
  go_wp2_with fail
  go_ret
  have hbm' : w.heap.size ≤ bm := hbm
  refine ⟨rfl, bm, hbm, ?_, HL1.out.setBroken false, ?_⟩
  · have hD1 := HD1.out
    exact ⟨(Below.heap_setCell _ _ _ _ (fun e => hne e.symm)).trans hD1.heap, hD1.len, hD1.map.of_heap (Below.heap_setCell _ _ _ _ (by show bm ≠ p; omega)), hD1.ne⟩
  · have := HU1.out
    exact Upd.setCell (a := w) ⟨this.os, this.tape, this.output, this.size, this.block⟩ _ (.inr (by simp)) _
end Go.Proofs.YtgjjcbcmjbnfnaaDoor
