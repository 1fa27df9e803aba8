/- The walks of what a list shows, and of Mark; no statement of the seat is proved here. -/
import Derived.Test.YtgjjcbcmjbnfnaaDoorAdd
namespace Go.Proofs.YtgjjcbcmjbnfnaaDoor
open Go.RowKit

theorem last_any (p b : Nat) (w : World) (L : Ls) (ts : List ByteArray) (hL : IsList w p b L ts) :
    Calls Tryd.prog 14 #[.pointer (some ⟨p, 0, none⟩)] w fun e w' => e = .returned (.int .i64 L.last) ∧ w = w' := by
  have c0 := hL.c0
  have c9 := hL.c9
  go_enter Tryd.func14, Tryd.ntmps14
  go_wp2
  go_ret
  exact ⟨rfl, rfl⟩
theorem marked_any (p b : Nat) (w : World) (L : Ls) (ts : List ByteArray) (hL : IsList w p b L ts) :
    Calls Tryd.prog 15 #[.pointer (some ⟨p, 0, none⟩)] w fun e w' => e = .returned (.int .i64 L.mark) ∧ w = w' := by
  have c0 := hL.c0
  have c10 := hL.c10
  go_enter Tryd.func15, Tryd.ntmps15
  go_wp2
  go_ret
  exact ⟨rfl, rfl⟩
theorem broken_any (p b : Nat) (w : World) (L : Ls) (ts : List ByteArray) (hL : IsList w p b L ts) :
    Calls Tryd.prog 22 #[.pointer (some ⟨p, 0, none⟩)] w fun e w' => e = .returned (.bool L.broken) ∧ w = w' := by
  have c1 := hL.c1
  go_enter Tryd.func22, Tryd.ntmps22
  go_wp2
  go_ret
  exact ⟨rfl, rfl⟩
theorem disk_any (p b : Nat) (w : World) (L : Ls) (ts : List ByteArray) (hL : IsList w p b L ts) :
    Calls Tryd.prog 23 #[.pointer (some ⟨p, 0, none⟩)] w fun e w' => e = .returned (.pointer (some ⟨b, 0, none⟩)) ∧ w = w' := by
  have c2 := hL.c2
  go_enter Tryd.func23, Tryd.ntmps23
  go_wp2
  go_ret
  exact ⟨rfl, rfl⟩

theorem mark_closed (p b : Nat) (w : World) (L : Ls) (ts : List ByteArray) (s : Dk) (n : Int) (hL : IsList w p b L ts) (hD : IsDisk w b s) (hw : L.works s = false) :
    Calls Tryd.prog 44 #[.pointer (some ⟨p, 0, none⟩), .int .i64 n] w fun e w' => e = .returned (.int .i64 6) ∧ ∃ n, w' = w.drewN n := by
  have HW := Lib.hid (works_any p b w L ts s hL hD)
  rw [hw] at HW
  clear hL hD
  go_enter Tryd.func44, Tryd.ntmps44
  go_wp2_with (go_at_call 45; refine HW.out.mono ?_; rintro e w' ⟨rfl, n, rfl⟩)
  go_ret
  exact ⟨rfl, _, rfl⟩

theorem mark_arg (p b : Nat) (w : World) (L : Ls) (ts : List ByteArray) (s : Dk) (n : Int) (hL : IsList w p b L ts) (hD : IsDisk w b s) (hw : L.works s = true) (hn : n < 0 ∨ (L.last : Int) < n) :
    Calls Tryd.prog 44 #[.pointer (some ⟨p, 0, none⟩), .int .i64 n] w fun e w' => e = .returned (.int .i64 1) ∧ ∃ n, w' = w.drewN n := by
  have HW := Lib.hid (works_any p b w L ts s hL hD)
  rw [hw] at HW
  have c9 := hL.c9
  clear hL hD
  by_cases h0 : n < 0
  · go_enter Tryd.func44, Tryd.ntmps44
    go_wp2_with (go_at_call 45; refine HW.out.mono ?_; rintro e w' ⟨rfl, n, rfl⟩)
    go_ret
    exact ⟨rfl, _, rfl⟩
  · have h1 : (L.last : Int) < n := by omega
    go_enter Tryd.func44, Tryd.ntmps44
    go_wp2_with (go_at_call 45; refine HW.out.mono ?_; rintro e w' ⟨rfl, n, rfl⟩)
    go_ret
    exact ⟨rfl, _, rfl⟩

theorem mark_any (p b : Nat) (w : World) (L : Ls) (ts : List ByteArray) (s : Dk) (n : Nat) (hL : IsList w p b L ts) (hD : IsDisk w b s) (hw : L.works s = true) (hn : n ≤ L.last) :
    Calls Tryd.prog 44 #[.pointer (some ⟨p, 0, none⟩), .int .i64 n] w fun e w' => e = .returned (.int .i64 0) ∧ IsList w' p b { L with dirty := true, mark := n } ts ∧ Upd w.heap.size [p] w w' := by
  have HW := Lib.hid (works_any p b w L ts s hL hD)
  rw [hw] at HW
  have c9 := hL.c9
  have c10 := hL.c10
  have c8 := hL.c8
  have f10 := hL.fr 10
  have f8 := hL.fr 8
  have h0 : (0 : Int) ≤ n := by omega
  have h1 : ((n : Nat) : Int) ≤ L.last := by omega
  have HL := Lib.hid hL
  clear hL hD
  go_enter Tryd.func44, Tryd.ntmps44
  go_wp2_with (go_at_call 45; refine HW.out.mono ?_; rintro e w' ⟨rfl, k, rfl⟩)
  go_ret
  have hK : IsList (w.drewN k) p b L ts := ⟨HL.out.heap, HL.out.own⟩
  exact ⟨rfl, (hK.set 10 (.int .i64 n) { L with mark := n } rfl rfl).set 8 (.bool true) { L with dirty := true, mark := n } rfl rfl,
    ((Upd.of_below (below_drewN (Below.refl _ w) k) [p]).setCell _ (.inr (by simp)) _).setCell _ (.inr (by simp)) _⟩
end Go.Proofs.YtgjjcbcmjbnfnaaDoor
