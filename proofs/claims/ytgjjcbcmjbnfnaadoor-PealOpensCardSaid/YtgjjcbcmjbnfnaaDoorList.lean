/- Lists in memory, and whether one works; no statement of the seat is proved here. -/
import Derived.Test.YtgjjcbcmjbnfnaaDoorNewest
namespace Go.Proofs.YtgjjcbcmjbnfnaaDoor
open Go.RowKit

/-- A list: its fields but for the disk. -/
structure Ls where
  broken : Bool
  turn : Int
  opened : Int
  root : Rt
  dirty : Bool
  last : Nat
  mark : Nat
  texts : Value

def Ls.cells (L : Ls) (b : Nat) : List Value := [.bool true, .bool L.broken, ptr b, .int .i64 L.turn, .int .i64 L.opened, .int .i64 L.root.1, .int .i64 L.root.2.1, .int .i64 L.root.2.2, .bool L.dirty, .int .i64 L.last, .int .i64 L.mark, L.texts]

structure IsList (w : World) (p b : Nat) (L : Ls) (ts : List ByteArray) : Prop where
  heap : w.heap[p]? = some (.cells (L.cells b).toArray 93)
  own : w.ownsRow 0 9 1 L.texts ts.length (strs ts)

section
variable {w : World} {p b : Nat} {L : Ls} {ts : List ByteArray}
theorem IsList.lt (h : IsList w p b L ts) : p < w.heap.size := heap_lt h.heap
theorem IsList.c0 (h : IsList w p b L ts) : w.cell? ⟨p, 0, none⟩ = some (.bool true) := by rw [cell_of_heap h.heap]; rfl
theorem IsList.c1 (h : IsList w p b L ts) : w.cell? ⟨p, 1, none⟩ = some (.bool L.broken) := by rw [cell_of_heap h.heap]; rfl
theorem IsList.c2 (h : IsList w p b L ts) : w.cell? ⟨p, 2, none⟩ = some (.pointer (some ⟨b, 0, none⟩)) := by rw [cell_of_heap h.heap]; rfl
theorem IsList.c3 (h : IsList w p b L ts) : w.cell? ⟨p, 3, none⟩ = some (.int .i64 L.turn) := by rw [cell_of_heap h.heap]; rfl
theorem IsList.c4 (h : IsList w p b L ts) : w.cell? ⟨p, 4, none⟩ = some (.int .i64 L.opened) := by rw [cell_of_heap h.heap]; rfl
theorem IsList.c5 (h : IsList w p b L ts) : w.cell? ⟨p, 5, none⟩ = some (.int .i64 L.root.1) := by rw [cell_of_heap h.heap]; rfl
theorem IsList.c6 (h : IsList w p b L ts) : w.cell? ⟨p, 6, none⟩ = some (.int .i64 L.root.2.1) := by rw [cell_of_heap h.heap]; rfl
theorem IsList.c7 (h : IsList w p b L ts) : w.cell? ⟨p, 7, none⟩ = some (.int .i64 L.root.2.2) := by rw [cell_of_heap h.heap]; rfl
theorem IsList.c8 (h : IsList w p b L ts) : w.cell? ⟨p, 8, none⟩ = some (.bool L.dirty) := by rw [cell_of_heap h.heap]; rfl
theorem IsList.c9 (h : IsList w p b L ts) : w.cell? ⟨p, 9, none⟩ = some (.int .i64 L.last) := by rw [cell_of_heap h.heap]; rfl
theorem IsList.c10 (h : IsList w p b L ts) : w.cell? ⟨p, 10, none⟩ = some (.int .i64 L.mark) := by rw [cell_of_heap h.heap]; rfl
theorem IsList.c11 (h : IsList w p b L ts) : w.cell? ⟨p, 11, none⟩ = some L.texts := by rw [cell_of_heap h.heap]; rfl
theorem IsList.fr (h : IsList w p b L ts) (j : Nat) : w.frozen? ⟨p, j, none⟩ = false := frozen_of_heap h.heap

/-- A row in a block of another kind stays. -/
theorem own_keep {w w' : World} {base e size n : Nat} {v : Value} {xs : List Value} (h : w.ownsRow base e size v n xs) (hg : ∀ g cur, w.heap[g]? = some (.cells cur e) → v.ownBlock = some g → w'.heap[g]? = w.heap[g]?) : w'.ownsRow base e size v n xs := by
  refine ⟨h.1, ?_⟩
  rcases h.2 with h2 | ⟨g, cap, cur, hv, hb, hgg, r⟩
  · exact .inl h2
  · exact .inr ⟨g, cap, cur, hv, hb, (hg g cur hgg (by rw [hv]; rfl)).trans hgg, r⟩

theorem IsList.set (h : IsList w p b L ts) (j : Nat) (u : Value) (L' : Ls) (hc : (L.cells b).set j u = L'.cells b) (ht : L'.texts = L.texts) : IsList (w.setCell ⟨p, j, none⟩ u) p b L' ts := by
  refine ⟨by rw [setCell_heap j u h.heap, hc], ?_⟩
  rw [ht]
  refine own_keep h.own (fun g cur hg _ => Below.heap_setCell _ _ _ _ (fun e => ?_))
  subst e
  have h1 := hg.symm.trans h.heap
  simp at h1

theorem IsList.keep {w w' : World} {B : Nat} {S : List Nat} (h : IsList w p b L ts) (hU : Upd B S w w') (hB : w.heap.size ≤ B) (hp : p ∉ S) (hS : ∀ g ∈ S, ∀ cur, w.heap[g]? ≠ some (.cells cur 9)) : IsList w' p b L ts :=
  ⟨(hU.block p (Nat.lt_of_lt_of_le h.lt hB) hp).trans h.heap, own_keep h.own (fun g cur hg _ => hU.block g (Nat.lt_of_lt_of_le (heap_lt hg) hB) (fun hx => hS g hx cur hg))⟩
end

def Ls.works (L : Ls) (s : Dk) : Bool := !L.broken && decide (L.turn = s.turn) && decide (L.opened = s.opened)

set_option maxHeartbeats 1000000 in
set_option maxRecDepth 100000 in
theorem works_any (p b : Nat) (w : World) (L : Ls) (ts : List ByteArray) (s : Dk) (hL : IsList w p b L ts) (hD : IsDisk w b s) :
    Calls Tryd.prog 45 #[.pointer (some ⟨p, 0, none⟩)] w fun e w' => e = .returned (.bool (L.works s)) ∧ ∃ n, w' = w.drewN n := by
  have c0 := hL.c0
  have c1 := hL.c1
  have c2 := hL.c2
  have c3 := hL.c3
  have c4 := hL.c4
  have d3 := hD.c3
  have d4 := hD.c4
  obtain ⟨bk, hb⟩ : ∃ x, x = L.broken := ⟨_, rfl⟩
  have HD := Lib.hid hD
  clear hL hD
  cases hbk : L.broken with
  | true =>
    rw [hbk] at c1
    have hv : L.works s = false := by simp [Ls.works, hbk]
    rw [hv]
    go_enter Tryd.func45, Tryd.ntmps45
    go_wp2_with fail
    go_quiet (fail)
    go_wp2
    go_ret
    exact ⟨rfl, _, rfl⟩
  | false =>
    rw [hbk] at c1
    by_cases ht : L.turn = s.turn
    · by_cases ho : L.opened = s.opened
      · have hv : L.works s = true := by simp [Ls.works, hbk, ht, ho]
        rw [hv]
        rw [ht] at c3
        rw [ho] at c4
        go_enter Tryd.func45, Tryd.ntmps45
        go_wp2_with fail
        go_quiet (fail)
        go_wp2
        go_ret
        exact ⟨rfl, _, rfl⟩
      · have hv : L.works s = false := by simp [Ls.works, ho]
        rw [hv]
        rw [ht] at c3
        have ho' : (L.opened == s.opened) = false := by simpa using ho
        go_enter Tryd.func45, Tryd.ntmps45
        go_wp2_with fail
        go_quiet (fail)
        go_wp2
        go_ret
        exact ⟨rfl, _, rfl⟩
    · have hv : L.works s = false := by simp [Ls.works, ht]
      rw [hv]
      have ht' : (L.turn == s.turn) = false := by simpa using ht
      go_enter Tryd.func45, Tryd.ntmps45
      go_wp2_with fail
      go_quiet (fail)
      go_wp2
      go_ret
      exact ⟨rfl, _, rfl⟩
end Go.Proofs.YtgjjcbcmjbnfnaaDoor
