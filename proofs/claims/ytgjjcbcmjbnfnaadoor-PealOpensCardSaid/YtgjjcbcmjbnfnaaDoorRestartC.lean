/- The walk of Restart where all is synced; no statement of the seat is proved here. -/
import Derived.Test.YtgjjcbcmjbnfnaaDoorSorted
import Derived.Test.YtgjjcbcmjbnfnaaDoorGood
namespace Go.Proofs.YtgjjcbcmjbnfnaaDoor
open Go.RowKit

set_option maxRecDepth 100000 in
theorem restart_clean (b : Nat) (w : World) (s : Dk) (keep : Int) (hD : IsDisk w b s) (hy : s.sy = []) (ht : 0 ≤ s.turn) (ht2 : s.turn < 4611686018427387904) :
    Calls Tryd.prog 25 #[.pointer (some ⟨b, 0, none⟩), .int .i64 keep] w fun e w' => e = .returned (.tuple #[]) ∧ ∃ bm, w.heap.size ≤ bm ∧
      IsDisk w' b { s with down := false, left := 0, turn := s.turn + 1, bm := bm, sy := [] } ∧ Upd w.heap.size [b] w w' := by
  have hmm := @run_makeMap Tryd.prog
  have h0 := hD.c0
  have h6 := hD.c6
  have HS : Hid (∀ w', IsMap w' s.bm s.sy → _) := Lib.hid (fun w' h => sorted50 s.bm s.sy w' h)
  have HD := Lib.hid hD
  have HY := Lib.hid hy
  have hblt := hD.lt
  have hmlt := hD.map.lt
  clear hD hy
  go_enter Tryd.func25, Tryd.ntmps25
  go_wp2_with (first | (go_at_call 47; refine (good_any h0).mono ?_; rintro e w' ⟨rfl, rfl⟩) | (go_at_call 51; refine (keys51 s.bm w).mono ?_; rintro e w' ⟨rfl, rfl⟩))
  refine (HS.out w HD.out.map).mono ?_
  rintro e w1 ⟨v, ks, rfl, hp, _, _, hnil, hb⟩
  have hks : ks = [] := by rw [HY.out] at hp; exact List.Perm.eq_nil hp
  have hv := hnil.2 hks
  subst hv
  have hb1 : Below w.heap.size w w1 := ((Below.refl _ w).alloc (Nat.le_refl _) _).trans (hb.mono (by omega))
  have hD1 : IsDisk w1 b s := HD.out.keep (Upd.of_below hb1 []) hblt hmlt (by simp) (by simp)
  have HB1 := Lib.hid hb1
  have d0 := hD1.c0
  have d1 := hD1.c1
  have d2 := hD1.c2
  have d3 := hD1.c3
  have d6 := hD1.c6
  have e1 := hD1.fr 1
  have e2 := hD1.fr 2
  have e3 := hD1.fr 3
  have e6 := hD1.fr 4101
  have hlt1 := hD1.lt
  have HD1 := Lib.hid hD1
  clear hp hnil hks hb hb1 hD1 HS h0 h6
  go_wp2_with fail
  go_loopw [4, 5, 6, 7, 18] (fun _ _ _ _ i wr => i = .int .i64 0 ∧ wr = w1) (fun _ _ _ _ _ _ => 0)
  case atStart => exact ⟨rfl, rfl⟩
  case round =>
    obtain ⟨rfl, rfl⟩ := hrel
    go_wp2
    go_end0
    have hsz := HB1.out.size
    have hDa := ((((HD1.out.alloc (.map #[] 0)).setMap wr.heap.size [] (IsMap.new rfl) (Nat.ne_of_lt hlt1)).setDown false).setLeft 0).setTurn (s.turn + 1)
    have hUa := (((((Upd.of_below HB1.out [b]).alloc hsz (.map #[] 0)).setCell ⟨b, 4101, none⟩ (.inr (by simp)) (.map (some wr.heap.size))).setCell ⟨b, 1, none⟩ (.inr (by simp)) (.bool false)).setCell ⟨b, 2, none⟩ (.inr (by simp)) (.int .i64 0)).setCell ⟨b, 3, none⟩ (.inr (by simp)) (.int .i64 (s.turn + 1))
    rw [World.setCell_alloc_past _ _ _ _ hlt1, World.setCell_alloc_past _ _ _ _ (by simpa using hlt1), World.setCell_alloc_past _ _ _ _ (by simpa using hlt1), World.setCell_alloc_past _ _ _ _ (by simpa using hlt1)] at hDa hUa
    exact ⟨rfl, wr.heap.size, hsz, hDa, hUa⟩
end Go.Proofs.YtgjjcbcmjbnfnaaDoor
