/- Lemmas on worlds, bytes and blocks that the proofs of this seat share; no statement of the seat is proved here. -/
import Derived.Test.YtgjjcbcmjbnfnaaDoorProg
import Derived.WalkKit
import Derived.WalkLawsBesides
import Derived.WalkSpells
import Derived.Lib.Hide
import Derived.StillTailTactics
namespace Go.Proofs.YtgjjcbcmjbnfnaaDoor
open Go.RowKit

/-- Below block B, and but for the blocks of S, the world w' is as w was. -/
structure Upd (B : Nat) (S : List Nat) (w w' : World) : Prop where
  os : w'.os = w.os
  tape : w'.tape = w.tape
  output : w'.output = w.output
  size : w.heap.size ≤ w'.heap.size
  block : ∀ k, k < B → k ∉ S → w'.heap[k]? = w.heap[k]?

theorem Upd.refl (B : Nat) (S : List Nat) (w : World) : Upd B S w w := ⟨rfl, rfl, rfl, Nat.le_refl _, fun _ _ _ => rfl⟩

theorem Upd.trans {B : Nat} {S : List Nat} {a b c : World} (h : Upd B S a b) (k : Upd B S b c) : Upd B S a c :=
  ⟨k.os.trans h.os, k.tape.trans h.tape, k.output.trans h.output, Nat.le_trans h.size k.size, fun i hi hs => (k.block i hi hs).trans (h.block i hi hs)⟩

theorem Upd.mono {B B' : Nat} {S S' : List Nat} {w w' : World} (h : Upd B S w w') (hB : B' ≤ B) (hS : ∀ x, x ∈ S → x ∈ S' ∨ B' ≤ x) : Upd B' S' w w' :=
  ⟨h.os, h.tape, h.output, h.size, fun k hk hs => h.block k (by omega) (fun hx => by rcases hS k hx with h1 | h1; exact hs h1; omega)⟩

theorem Upd.below {B : Nat} {w w' : World} (h : Upd B [] w w') : Below B w w' := ⟨h.os, h.tape, h.output, h.size, fun k hk => h.block k hk (by simp)⟩
theorem Upd.of_below {B : Nat} {w w' : World} (h : Below B w w') (S : List Nat) : Upd B S w w' := ⟨h.os, h.tape, h.output, h.size, fun k hk _ => h.block k hk⟩

theorem Upd.drew {B : Nat} {S : List Nat} {a w : World} (h : Upd B S a w) : Upd B S a w.drew := ⟨h.os, h.tape, h.output, h.size, h.block⟩

theorem Upd.alloc {B : Nat} {S : List Nat} {a w : World} (h : Upd B S a w) (hB : B ≤ w.heap.size) (o : Obj) : Upd B S a (w.alloc o) :=
  h.trans (Upd.of_below ((Below.refl B w).alloc hB o) S)

theorem Upd.setCell {B : Nat} {S : List Nat} {a w : World} (h : Upd B S a w) (p : Addr) (hp : B ≤ p.block ∨ p.block ∈ S) (u : Value) : Upd B S a (w.setCell p u) :=
  h.trans ⟨rfl, rfl, rfl, by simp, fun k hk hs => Below.heap_setCell _ _ _ _ (fun e => by subst e; rcases hp with h1 | h1; omega; exact hs h1)⟩

theorem Upd.setRow {B : Nat} {S : List Nat} {a w : World} (h : Upd B S a w) (g : Nat) (hp : B ≤ g ∨ g ∈ S) (c : Array Value) : Upd B S a (w.setRow g c) :=
  h.trans ⟨rfl, rfl, rfl, by simp, fun k hk hs => setRow_other w g k c (fun e => by subst e; rcases hp with h1 | h1; omega; exact hs h1)⟩

/-- An object laid anew in its own block. -/
def putObj (w : World) (r : Nat) (o : Obj) : World := { w with heap := w.heap.setIfInBounds r o }

theorem putObj_same (w : World) (r : Nat) (o x : Obj) (h : w.heap[r]? = some x) : (putObj w r o).heap[r]? = some o := by
  have := (Array.getElem?_eq_some_iff.1 h).1
  simp [putObj, this]
theorem putObj_other (w : World) (r k : Nat) (o : Obj) (h : k ≠ r) : (putObj w r o).heap[k]? = w.heap[k]? := by
  simp only [putObj]; rw [Array.getElem?_setIfInBounds_ne (fun e => h e.symm)]
@[simp] theorem putObj_size (w : World) (r : Nat) (o : Obj) : (putObj w r o).heap.size = w.heap.size := by simp [putObj]

theorem Upd.putObj {B : Nat} {S : List Nat} {a w : World} (h : Upd B S a w) (g : Nat) (hp : B ≤ g ∨ g ∈ S) (o : Obj) : Upd B S a (putObj w g o) :=
  h.trans ⟨rfl, rfl, rfl, by simp, fun k hk hs => putObj_other w g k o (fun e => by subst e; rcases hp with h1 | h1; omega; exact hs h1)⟩

theorem Upd.grown {B : Nat} {S : List Nat} {a w w' : World} {row : Option Nat} (h : Upd B S a w) (hg : w.grownBy w' row) (hB : B ≤ w.heap.size) (hr : ∀ k, row = some k → B ≤ k ∨ k ∈ S) : Upd B S a w' :=
  h.trans ⟨hg.os, hg.tape, hg.output, hg.size, fun k hk hs => hg.block k (by omega) (fun e => by rcases hr k e.symm with h1 | h1; omega; exact hs h1)⟩

theorem Upd.cell {B : Nat} {S : List Nat} {w w' : World} (h : Upd B S w w') {p : Addr} (hp : p.block < B) (hs : p.block ∉ S) : w'.cell? p = w.cell? p := World.cell?_of_block (w := w) (h.block p.block hp hs)
theorem Upd.frozen {B : Nat} {S : List Nat} {w w' : World} (h : Upd B S w w') {p : Addr} (hp : p.block < B) (hs : p.block ∉ S) : w'.frozen? p = w.frozen? p := World.frozen?_of_block (w := w) (h.block p.block hp hs)

/-- A block that holds something is there. -/
theorem heap_lt {w : World} {b : Nat} {o : Obj} (h : w.heap[b]? = some o) : b < w.heap.size := (Array.getElem?_eq_some_iff.1 h).1

theorem heap_alloc_some {w : World} {b : Nat} {x : Obj} (o : Obj) (h : w.heap[b]? = some x) : (w.alloc o).heap[b]? = some x := by
  rw [Below.heap_alloc w o b (heap_lt h)]; exact h

theorem cell_of_heap {w : World} {b j : Nat} {l : List Value} {t : TypeId} {fr : Nat × Nat} (h : w.heap[b]? = some (.cells l.toArray t fr)) : w.cell? ⟨b, j, none⟩ = l[j]? := by
  rw [cell_of_row w b j _ t fr h]; simp
theorem frozen_of_heap {w : World} {b j : Nat} {l : List Value} {t : TypeId} (h : w.heap[b]? = some (.cells l.toArray t)) : w.frozen? ⟨b, j, none⟩ = false :=
  frozen_of_row w b j _ t h

theorem setCell_heap {w : World} {b : Nat} (j : Nat) (u : Value) {l : List Value} {t : TypeId} (h : w.heap[b]? = some (.cells l.toArray t)) :
    (w.setCell ⟨b, j, none⟩ u).heap[b]? = some (.cells (l.set j u).toArray t) := by
  rw [heap_setCell_same w b j _ t u h]; simp

theorem alloc_new {w : World} (o : Obj) {n : Nat} (h : n = w.heap.size) : (w.alloc o).heap[n]? = some o := by subst h; exact heap_alloc_new w o

/-- A region that draws its order, reads in all its operations but the last ones, and then goes on in one order: the world behind the draw under a name of its own. -/
theorem wp_region_tail {P : Program} {id : Nat} {Q : Exit → Act → World → Prop} {a : Act} {w : World} {l : List Oper} (n : Nat) (hm : P.follows .mixedOrders = true) (hB : Region.lexTailB .any l.toArray n = true)
    (W : World) (hW : W = w.drew) (h : wpStill P l.toArray W (fun a' => wpList P l.toArray Q (l.drop n) a' W) (l.take n) a) : (Code.region id l.toArray true).wp P Q a w := by
  subst hW
  exact wp_region_still_tail n hm hB h

theorem wpStill_value {P : Program} {ops : Array Oper} {w : World} {Q : Act → Prop} {a : Act} {o : Oper} {rest : List Oper} (hg : o.guard = none) (v : Value) (hrun : (execOp a.eval o).run P w = .ok (.value v) w)
    (h : wpStill P ops w Q rest (a.put o.dst v)) : wpStill P ops w Q (o :: rest) a :=
  wpStill_step fun K hK => by
    simp only [Region.wanted, hg, if_true, Oper.still, hrun, Oper.stillUpon]
    exact ⟨trivial, hK _ h⟩

theorem wpList_value {P : Program} {ops : Array Oper} {w w' : World} {Q : Exit → Act → World → Prop} {a : Act} {o : Oper} {rest : List Oper} (hg : o.guard = none) (v : Value) (hrun : (execOp a.eval o).run P w = .ok (.value v) w')
    (h : wpList P ops Q rest (a.put o.dst v) w') : wpList P ops Q (o :: rest) a w :=
  wpList_plain hg fun K hK => by
    unfold Oper.wp
    rw [hrun]
    exact hK _ _ h

theorem exec_load {P : Program} {ev : Operand → Value} {o : Oper} {w : World} (t : TypeId) (x : Operand) (ad : Addr) (v : Value) (ho : o.op = .load t x) (hx : ev x = .pointer (some ad)) (h : (loadVar t ad).run P w = .ok v w) :
    (execOp ev o).run P w = .ok (.value v) w := by
  unfold execOp
  simp only [ho, hx, Instr.loadAt, Instr.sureAddr, Sem.run_bind, Sem.run_pure, Result.andThen_ok, h]

/-! ### bytes -/

def bv (c : UInt8) : Value := .int .u8 c.toNat
def bvs (l : List UInt8) : List Value := l.map bv
@[simp] theorem bvs_length (l : List UInt8) : (bvs l).length = l.length := by simp [bvs]
@[simp] theorem bvs_nil : bvs [] = [] := rfl
theorem bvs_append (a b : List UInt8) : bvs (a ++ b) = bvs a ++ bvs b := by simp [bvs]
theorem bvs_take (a : List UInt8) (n : Nat) : bvs (a.take n) = (bvs a).take n := by simp [bvs, List.map_take]
theorem bvs_drop (a : List UInt8) (n : Nat) : bvs (a.drop n) = (bvs a).drop n := by simp [bvs, List.map_drop]
theorem bvs_one (l : List UInt8) : ∀ u ∈ bvs l, u.oneCell' = true := by
  intro u hu; simp only [bvs, List.mem_map] at hu; obtain ⟨c, _, rfl⟩ := hu; rfl
theorem bvs_getElem? (l : List UInt8) (i : Nat) : (bvs l)[i]? = l[i]?.map bv := by simp [bvs]
theorem bvs_zeros (n : Nat) : bvs (List.replicate n 0) = List.replicate n (.int .u8 0) := by simp [bvs, bv]

theorem zeroCells45_eq : Tryd.zeroCells45 = (bvs (List.replicate 128 0)).toArray := by kernel_rfl

/-! ### rows of cells in memory: loaded, stored -/

theorem run_loadRow {P : Program} (w : World) (g o n : Nat) (l : List Value) (t : TypeId) (fr : Nat × Nat) (h : w.heap[g]? = some (.cells l.toArray t fr)) (hn : o + n ≤ l.length) :
    (loadCells ⟨g, o, none⟩ n).run P w = .ok ((l.drop o).take n).toArray w := by
  have hl := run_loadCells_list (P := P) w ⟨g, o, none⟩ ((l.drop o).take n) (fun j v hv => by
    have hadd : (⟨g, o, none⟩ : Addr).add j = ⟨g, o + j, none⟩ := by unfold Addr.add; split <;> simp_all
    rw [hadd, cell_of_heap h]
    rw [List.getElem?_take] at hv
    split at hv
    · simpa using hv
    · cases hv)
  have e : ((l.drop o).take n).length = n := by simp; omega
  rw [e] at hl
  exact hl

theorem run_storeRow {P : Program} (w : World) (g o : Nat) (vs l : List Value) (t : TypeId) (h : w.heap[g]? = some (.cells l.toArray t)) (hn : o + vs.length ≤ l.length) (h1 : ∀ v ∈ vs, v.oneCell' = true) :
    (storeCells ⟨g, o, none⟩ vs).run P w = .ok () (w.setRow g (l.take o ++ vs ++ l.drop (o + vs.length)).toArray) := by
  have := run_storeCells_at P g o t vs 0 l.toArray w h (by simpa using hn) h1
  simpa using this

theorem setRow_heap' {w : World} {g : Nat} {l : List Value} {t : TypeId} (m : List Value) (h : w.heap[g]? = some (.cells l.toArray t)) : (w.setRow g m.toArray).heap[g]? = some (.cells m.toArray t) :=
  setRow_heap w g _ _ t _ h

/-- A store over the whole of a block that has just been made. -/
theorem run_storeNew {P : Program} (w : World) (n : Nat) (hn : n = w.heap.size) (vs : List Value) (z : Array Value) (t : TypeId) (hz : z.size = vs.length) (h1 : ∀ v ∈ vs, v.oneCell' = true) :
    (storeCells ⟨n, 0, none⟩ vs).run P (w.alloc (.cells z t)) = .ok () (w.alloc (.cells vs.toArray t)) := by
  subst hn
  have h := heap_alloc_new w (.cells z t)
  have hr := run_storeCells_at P w.heap.size 0 t vs 0 z (w.alloc (.cells z t)) h (by omega) h1
  rw [hr]
  congr 1
  simp only [Nat.add_zero, List.take_zero, List.nil_append, Nat.zero_add]
  rw [List.drop_of_length_le (by simp [hz]), List.append_nil]
  simp only [World.setRow, World.alloc]
  congr 1
  apply Array.ext_getElem?
  intro k
  simp only [Array.getElem?_modify, Array.getElem?_push]
  by_cases hk : k = w.heap.size
  · subst hk; simp
  · simp [hk]; intro h; exact absurd h.symm hk

end Go.Proofs.YtgjjcbcmjbnfnaaDoor
