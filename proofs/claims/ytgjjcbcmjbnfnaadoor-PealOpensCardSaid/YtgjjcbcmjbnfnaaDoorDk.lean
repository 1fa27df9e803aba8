/- The disk of the program as a plain record, how it lies in memory, and what the map operations do there; no statement of the seat is proved here. -/
import Derived.Test.YtgjjcbcmjbnfnaaDoorBase
namespace Go.Proofs.YtgjjcbcmjbnfnaaDoor
open Go.RowKit

/-! ### the map of blocks -/

def entKV (e : MapEntry) : Value × Value := (e.key, e.val)
def syKV (p : Nat × List UInt8) : Value × Value := (.int .i64 p.1, .agg (bvs p.2).toArray)

structure IsMap (w : World) (m : Nat) (sy : List (Nat × List UInt8)) : Prop where
  ex : ∃ es clk, w.heap[m]? = some (.map es clk) ∧ es.toList.map entKV = sy.map syKV ∧ (es.toList.map (·.born)).Nodup ∧ (∀ e ∈ es.toList, e.born < clk)
  nodup : (sy.map (·.1)).Nodup
  len : ∀ p ∈ sy, p.2.length = 128 ∧ p.1 < 32

theorem IsMap.of_heap {w w' : World} {m : Nat} {sy : List (Nat × List UInt8)} (h : IsMap w m sy) (e : w'.heap[m]? = w.heap[m]?) : IsMap w' m sy :=
  ⟨by obtain ⟨es, clk, h1, h2⟩ := h.ex; exact ⟨es, clk, e.trans h1, h2⟩, h.nodup, h.len⟩

theorem IsMap.lt {w : World} {m : Nat} {sy : List (Nat × List UInt8)} (h : IsMap w m sy) : m < w.heap.size := by
  obtain ⟨es, clk, h1, _⟩ := h.ex; exact heap_lt h1

theorem IsMap.new {w : World} {n : Nat} (hn : n = w.heap.size) : IsMap (w.alloc (.map #[] 0)) n [] :=
  ⟨⟨#[], 0, alloc_new _ hn, rfl, by simp, by simp⟩, by simp, by simp⟩

def syGet (sy : List (Nat × List UInt8)) (k : Nat) : Option (List UInt8) := (sy.find? (fun p => p.1 == k)).map (·.2)

theorem findNow_sy (k : Nat) : ∀ (es : List MapEntry) (sy : List (Nat × List UInt8)) (i : Nat), es.map entKV = sy.map syKV →
    (syGet sy k = none → Instr.findNow (.int .i64) (.int .i64 (k : Int)) es i = some none) ∧
    (∀ b, syGet sy k = some b → ∃ j, Instr.findNow (.int .i64) (.int .i64 (k : Int)) es i = some (some (j, .agg (bvs b).toArray)))
  | [], [], i, _ => by simp [syGet, Instr.findNow]
  | [], _ :: _, _, h => by simp at h
  | _ :: _, [], _, h => by simp at h
  | e :: es, p :: sy, i, h => by
    simp only [List.map_cons, List.cons.injEq] at h
    obtain ⟨h1, h2⟩ := h
    obtain ⟨hk, hv⟩ := Prod.mk.inj h1
    have ih := findNow_sy k es sy (i + 1) h2
    have hs : Instr.sameNow (.int .i64) (.int .i64 (k : Int)) e.key = some ((k : Int) == (p.1 : Int)) := by rw [hk]; simp [Instr.sameNow]
    by_cases hkp : p.1 = k
    · simp [syGet, Instr.findNow, hs, hkp, hv]
    · have hb : ((k : Int) == (p.1 : Int)) = false := by simp; omega
      have hb2 : (p.1 == k) = false := by simp [hkp]
      have e1 : syGet (p :: sy) k = syGet sy k := by simp [syGet, hb2]
      rw [e1]
      simp only [Instr.findNow, hs, hb]
      exact ih

theorem run_checkInt (em : Bool) (n : Nat) (k : Int) (w : World) : (Instr.checkKey em (n + 1) 3 (.int .i64 k)).run Tryd.prog w = .ok () w := by
  simp [Instr.checkKey, Sem.run_bind, Tryd.runUnderlying3]

theorem run_checkInt' (em : Bool) (k : Int) (w : World) : (Instr.checkKey em 10000 3 (.int .i64 k)).run Tryd.prog w = .ok () w := run_checkInt em 9999 k w

theorem run_lookup_yes (w : World) (m k : Nat) (sy : List (Nat × List UInt8)) (h : IsMap w m sy) (b : List UInt8) (hb : syGet sy k = some b) (ok : Bool) :
    (Instr.lookup 47 (.map (some m)) (.int .i64 (k : Int)) ok).run Tryd.prog w = .ok (if ok then .tuple #[.agg (bvs b).toArray, .bool true] else .agg (bvs b).toArray) w := by
  obtain ⟨es, clk, h1, h2, _⟩ := h.ex
  obtain ⟨j, hj⟩ := (findNow_sy k es.toList sy 0 h2).2 b hb
  cases ok <;> simp [Instr.lookup, Instr.findKey, run_checkInt', Sem.run_bind, Tryd.runUnderlying47, Tryd.runUnderlying3, getObj, Sem.run, h1, hj]

theorem run_lookup_no (w : World) (m k : Nat) (sy : List (Nat × List UInt8)) (h : IsMap w m sy) (hb : syGet sy k = none) (ok : Bool) :
    (Instr.lookup 47 (.map (some m)) (.int .i64 (k : Int)) ok).run Tryd.prog w = .ok (if ok then .tuple #[.agg Tryd.zeroCells45, .bool false] else .agg Tryd.zeroCells45) w := by
  obtain ⟨es, clk, h1, h2, _⟩ := h.ex
  have hj := (findNow_sy k es.toList sy 0 h2).1 hb
  cases ok <;> simp [Instr.lookup, Instr.findKey, run_checkInt', Sem.run_bind, Tryd.runUnderlying47, Tryd.runUnderlying3, Tryd.zeroValue45, getObj, Sem.run, h1, hj]

theorem syGet_none {sy : List (Nat × List UInt8)} {k : Nat} (h : syGet sy k = none) : k ∉ sy.map (·.1) := by
  intro hk
  simp only [List.mem_map] at hk
  obtain ⟨p, hp, rfl⟩ := hk
  simp only [syGet, Option.map_eq_none_iff, List.find?_eq_none] at h
  exact absurd (h p hp) (by simp)

theorem run_mapUpdate_no (w : World) (m k : Nat) (hk : k < 32) (sy : List (Nat × List UInt8)) (h : IsMap w m sy) (hb : syGet sy k = none) (b : List UInt8) (hl : b.length = 128) :
    ∃ o, (Instr.mapUpdate 47 (.map (some m)) (.int .i64 (k : Int)) (.agg (bvs b).toArray)).run Tryd.prog w = .ok () (putObj w m o) ∧ IsMap (putObj w m o) m (sy ++ [(k, b)]) := by
  obtain ⟨es, clk, h1, h2, h3, h4⟩ := h.ex
  have hj := (findNow_sy k es.toList sy 0 h2).1 hb
  refine ⟨.map (es.push { key := .int .i64 (k : Int), val := .agg (bvs b).toArray, born := clk }) (clk + 1), ?_, ⟨?_, ?_, ?_⟩⟩
  · simp [Instr.mapUpdate, Instr.findKey, run_checkInt', Sem.run_bind, Tryd.runUnderlying47, Tryd.runUnderlying3, getObj, setObj, Sem.run, h1, hj, putObj]
  · refine ⟨_, _, putObj_same w m _ _ h1, ?_, ?_, ?_⟩
    · simp [h2, entKV, syKV]
    · simp only [Array.toList_push, List.map_append, List.map_cons, List.map_nil]
      rw [List.nodup_append]
      refine ⟨h3, by simp, ?_⟩
      intro a ha b hb
      simp only [List.mem_map] at ha
      obtain ⟨e, he, rfl⟩ := ha
      have := h4 e he
      simp at hb; omega
    · intro e he
      simp only [Array.toList_push, List.mem_append, List.mem_singleton] at he
      rcases he with he | rfl
      · have := h4 e he; omega
      · simp
  · rw [List.map_append, List.nodup_append]
    refine ⟨h.nodup, by simp, ?_⟩
    intro a ha c hc
    have := syGet_none hb
    simp at hc; subst hc
    intro e; subst e; exact this ha
  · intro p hp
    rcases List.mem_append.1 hp with hp | hp
    · exact h.len p hp
    · simp at hp; subst hp; exact ⟨hl, hk⟩

/-! ### the disk -/

structure Dk where
  down : Bool
  left : Int
  turn : Int
  opened : Int
  bs : List UInt8
  bm : Nat
  sy : List (Nat × List UInt8)

def Dk.cells (s : Dk) : List Value := .bool true :: .bool s.down :: .int .i64 s.left :: .int .i64 s.turn :: .int .i64 s.opened :: (bvs s.bs ++ [.map (some s.bm)])

structure IsDisk (w : World) (b : Nat) (s : Dk) : Prop where
  heap : w.heap[b]? = some (.cells s.cells.toArray 49)
  len : s.bs.length = 4096
  map : IsMap w s.bm s.sy
  ne : b ≠ s.bm

/-- The block k of the bytes of all blocks. -/
def blk (l : List UInt8) (k : Nat) : List UInt8 := (l.drop (128 * k)).take 128
def blkSet (l : List UInt8) (k : Nat) (b : List UInt8) : List UInt8 := l.take (128 * k) ++ b ++ l.drop (128 * k + 128)

theorem blk_length {l : List UInt8} {k : Nat} (hl : l.length = 4096) (hk : k < 32) : (blk l k).length = 128 := by simp [blk, hl]; omega
theorem blkSet_length {l : List UInt8} {k : Nat} {b : List UInt8} (hl : l.length = 4096) (hk : k < 32) (hb : b.length = 128) : (blkSet l k b).length = 4096 := by simp [blkSet, hl, hb]; omega

theorem blk_blkSet_same {l : List UInt8} {k : Nat} {b : List UInt8} (hl : l.length = 4096) (hk : k < 32) (hb : b.length = 128) : blk (blkSet l k b) k = b := by
  have h1 : (l.take (128 * k)).length = 128 * k := by simp [hl]; omega
  simp only [blk, blkSet, List.append_assoc]
  rw [List.drop_append_of_le_length (by omega), List.drop_of_length_le (by omega), List.nil_append, List.take_append_of_le_length (by omega), List.take_of_length_le (by omega)]

theorem blk_blkSet_other {l : List UInt8} {k j : Nat} {b : List UInt8} (hl : l.length = 4096) (hk : k < 32) (hb : b.length = 128) (hne : j ≠ k) : blk (blkSet l k b) j = blk l j := by
  apply List.ext_getElem?
  intro i
  simp only [blk, blkSet, List.getElem?_take, List.getElem?_drop, List.append_assoc]
  by_cases hi : i < 128
  · simp only [hi, if_true]
    by_cases h : j < k
    · rw [List.getElem?_append_left (by simp [hl]; omega), List.getElem?_take, if_pos (by omega)]
    · rw [List.getElem?_append_right (by simp [hl]; omega), List.getElem?_append_right (by simp [hl, hb]; omega), List.getElem?_drop]
      congr 1
      simp [hl, hb]; omega
  · simp [hi]

theorem IsDisk.lt {w : World} {b : Nat} {s : Dk} (h : IsDisk w b s) : b < w.heap.size := heap_lt h.heap

theorem IsDisk.keep {w w' : World} {b : Nat} {s : Dk} {B : Nat} {S : List Nat} (h : IsDisk w b s) (hu : Upd B S w w') (hb : b < B) (hm : s.bm < B) (h1 : b ∉ S) (h2 : s.bm ∉ S) : IsDisk w' b s :=
  ⟨(hu.block b hb h1).trans h.heap, h.len, h.map.of_heap (hu.block _ hm h2), h.ne⟩

section
variable {w : World} {b : Nat} {s : Dk}
theorem IsDisk.c0 (h : IsDisk w b s) : w.cell? ⟨b, 0, none⟩ = some (.bool true) := by rw [cell_of_heap h.heap]; simp [Dk.cells]
theorem IsDisk.c1 (h : IsDisk w b s) : w.cell? ⟨b, 1, none⟩ = some (.bool s.down) := by rw [cell_of_heap h.heap]; simp [Dk.cells]
theorem IsDisk.c2 (h : IsDisk w b s) : w.cell? ⟨b, 2, none⟩ = some (.int .i64 s.left) := by rw [cell_of_heap h.heap]; simp [Dk.cells]
theorem IsDisk.c3 (h : IsDisk w b s) : w.cell? ⟨b, 3, none⟩ = some (.int .i64 s.turn) := by rw [cell_of_heap h.heap]; simp [Dk.cells]
theorem IsDisk.c4 (h : IsDisk w b s) : w.cell? ⟨b, 4, none⟩ = some (.int .i64 s.opened) := by rw [cell_of_heap h.heap]; simp [Dk.cells]
theorem Dk.cells_map (hl : s.bs.length = 4096) : s.cells[4101]? = some (.map (some s.bm)) := by
  simp only [Dk.cells]
  rw [show (4101 : Nat) = 4096 + 1 + 1 + 1 + 1 + 1 from rfl]
  simp only [List.getElem?_cons_succ]
  rw [List.getElem?_append_right (by simp [hl])]
  simp [hl]
theorem IsDisk.c6 (h : IsDisk w b s) : w.cell? ⟨b, 4101, none⟩ = some (.map (some s.bm)) := by rw [cell_of_heap h.heap]; exact Dk.cells_map h.len
theorem IsDisk.fr (h : IsDisk w b s) (j : Nat) : w.frozen? ⟨b, j, none⟩ = false := frozen_of_heap h.heap
theorem Dk.cells_length (hl : s.bs.length = 4096) : s.cells.length = 4102 := by simp [Dk.cells, hl]

/-- What the disk's own block is behind a store into one of its first five cells, or of its map. -/
theorem IsDisk.set (h : IsDisk w b s) (j : Nat) (u : Value) (s' : Dk) (hc : s.cells.set j u = s'.cells) (hl : s'.bs = s.bs) (hm : s'.bm = s.bm) (hy : s'.sy = s.sy) : IsDisk (w.setCell ⟨b, j, none⟩ u) b s' :=
  ⟨by rw [setCell_heap j u h.heap, hc], by rw [hl]; exact h.len, by rw [hm, hy]; exact h.map.of_heap (Below.heap_setCell _ _ _ _ (by rw [← hm, hm]; exact fun e => h.ne e.symm)), by rw [hm]; exact h.ne⟩

theorem IsDisk.setDown (h : IsDisk w b s) (x : Bool) : IsDisk (w.setCell ⟨b, 1, none⟩ (.bool x)) b { s with down := x } := h.set 1 _ _ rfl rfl rfl rfl
theorem IsDisk.setLeft (h : IsDisk w b s) (x : Int) : IsDisk (w.setCell ⟨b, 2, none⟩ (.int .i64 x)) b { s with left := x } := h.set 2 _ _ rfl rfl rfl rfl
theorem IsDisk.setTurn (h : IsDisk w b s) (x : Int) : IsDisk (w.setCell ⟨b, 3, none⟩ (.int .i64 x)) b { s with turn := x } := h.set 3 _ _ rfl rfl rfl rfl
theorem IsDisk.setOpened (h : IsDisk w b s) (x : Int) : IsDisk (w.setCell ⟨b, 4, none⟩ (.int .i64 x)) b { s with opened := x } := h.set 4 _ _ rfl rfl rfl rfl

theorem IsDisk.setMap (h : IsDisk w b s) (m : Nat) (sy : List (Nat × List UInt8)) (hm : IsMap w m sy) (hne : b ≠ m) : IsDisk (w.setCell ⟨b, 4101, none⟩ (.map (some m))) b { s with bm := m, sy := sy } :=
  ⟨by
    rw [setCell_heap _ _ h.heap]
    congr 2
    simp only [Dk.cells]
    rw [show (4101 : Nat) = 4096 + 1 + 1 + 1 + 1 + 1 from rfl]
    simp only [List.set_cons_succ]
    rw [List.set_append_right _ _ (by simp [h.len])]
    simp [h.len], h.len, hm.of_heap (Below.heap_setCell _ _ _ _ (fun e => hne e.symm)), hne⟩

theorem IsDisk.alloc (h : IsDisk w b s) (o : Obj) : IsDisk (w.alloc o) b s :=
  ⟨heap_alloc_some o h.heap, h.len, h.map.of_heap (Below.heap_alloc _ _ _ h.map.lt), h.ne⟩
theorem IsDisk.drew (h : IsDisk w b s) : IsDisk w.drew b s := ⟨h.heap, h.len, h.map.of_heap rfl, h.ne⟩
end

/-- A block of the disk, read. -/
theorem Dk.cells_blk {s : Dk} (hl : s.bs.length = 4096) {k : Nat} (hk : k < 32) : (s.cells.drop (5 + 128 * k)).take 128 = bvs (blk s.bs k) := by
  have h1 : s.cells = [.bool true, .bool s.down, .int .i64 s.left, .int .i64 s.turn, .int .i64 s.opened] ++ (bvs s.bs ++ [.map (some s.bm)]) := rfl
  rw [h1, List.drop_append, List.drop_of_length_le (by simp), List.nil_append, List.drop_append_of_le_length (by simp [hl]; omega), List.take_append_of_le_length (by simp [hl]; omega)]
  simp [blk, bvs_take, bvs_drop]

theorem IsDisk.loadBlk {P : Program} {w : World} {b : Nat} {s : Dk} (h : IsDisk w b s) {k o : Nat} (hk : k < 32) (ho : o = 5 + 128 * k) : (loadCells ⟨b, o, none⟩ 128).run P w = .ok (bvs (blk s.bs k)).toArray w := by
  subst ho
  have := run_loadRow (P := P) w b (5 + 128 * k) 128 s.cells 49 (0, 0) h.heap (by rw [Dk.cells_length h.len]; omega)
  rw [Dk.cells_blk h.len hk] at this
  exact this

theorem blkSet_part (l vs : List UInt8) (k i : Nat) (hl : l.length = 4096) (hk : k < 32) (hi : i + vs.length ≤ 128) :
    l.take (128 * k + i) ++ vs ++ l.drop (128 * k + i + vs.length) = blkSet l k ((blk l k).take i ++ vs ++ (blk l k).drop (i + vs.length)) := by
  have hbl : (blk l k).length = 128 := blk_length hl hk
  have e1 : l.take (128 * k + i) = l.take (128 * k) ++ (blk l k).take i := by
    rw [blk, List.take_take, Nat.min_eq_left (by omega), ← List.take_add]
  have e2 : l.drop (128 * k + i + vs.length) = (blk l k).drop (i + vs.length) ++ l.drop (128 * k + 128) := by
    rw [blk, List.drop_take, List.drop_drop, show l.drop (128 * k + 128) = (l.drop (128 * k + (i + vs.length))).drop (128 - (i + vs.length)) by rw [List.drop_drop]; congr 1; omega, List.take_append_drop]
    congr 1; omega
  rw [e1, e2]
  simp [blkSet]

def Dk.hdr (s : Dk) : List Value := [.bool true, .bool s.down, .int .i64 s.left, .int .i64 s.turn, .int .i64 s.opened]
theorem Dk.cells_eq (s : Dk) : s.cells = s.hdr ++ (bvs s.bs ++ [.map (some s.bm)]) := rfl
theorem Dk.hdr_length (s : Dk) : s.hdr.length = 5 := rfl

theorem IsDisk.loadVarBlk {w : World} {b : Nat} {s : Dk} (h : IsDisk w b s) {k o : Nat} (hk : k < 32) (ho : o = 5 + 128 * k) : (loadVar 45 ⟨b, o, none⟩).run Tryd.prog w = .ok (.agg (bvs (blk s.bs k)).toArray) w := by
  have h1 := h.loadBlk (P := Tryd.prog) hk ho
  unfold loadVar
  simp only [Sem.run_bind, Tryd.isAgg45, Tryd.sizeOf45, Result.andThen_ok, if_true, h1, Sem.run_pure]

/-- A part of a block of the disk, written. -/
theorem IsDisk.storeBlk {P : Program} {w : World} {b : Nat} {s : Dk} (h : IsDisk w b s) {k i o : Nat} (hk : k < 32) (vs : List UInt8) (hi : i + vs.length ≤ 128) (ho : o = 5 + 128 * k + i) :
    ∃ c, (storeCells ⟨b, o, none⟩ (bvs vs)).run P w = .ok () (w.setRow b c) ∧ IsDisk (w.setRow b c) b { s with bs := blkSet s.bs k ((blk s.bs k).take i ++ vs ++ (blk s.bs k).drop (i + vs.length)) } := by
  subst ho
  have hr := run_storeRow (P := P) w b (5 + 128 * k + i) (bvs vs) s.cells 49 h.heap (by rw [Dk.cells_length h.len]; simp; omega) (bvs_one vs)
  refine ⟨_, hr, ⟨?_, ?_, ?_, h.ne⟩⟩
  · rw [setRow_heap' _ h.heap]
    congr 2
    rw [Dk.cells_eq, Dk.cells_eq, show ({ s with bs := blkSet s.bs k ((blk s.bs k).take i ++ vs ++ (blk s.bs k).drop (i + vs.length)) } : Dk).hdr = s.hdr from rfl, ← blkSet_part s.bs vs k i h.len hk hi]
    rw [show 5 + 128 * k + i = s.hdr.length + (128 * k + i) by rw [Dk.hdr_length]; omega, List.take_length_add_append, Nat.add_assoc, List.drop_length_add_append]
    simp only [List.append_assoc]
    congr 1
    rw [List.take_append_of_le_length (by simp [h.len]; omega), List.drop_append_of_le_length (by simp [h.len]; omega)]
    simp [bvs_append, bvs_take, bvs_drop]
  · show (blkSet _ _ _).length = _
    refine blkSet_length h.len hk ?_
    have hbl : (blk s.bs k).length = 128 := blk_length h.len hk
    simp [hbl]; omega
  · exact h.map.of_heap (setRow_other w b s.bm _ (fun e => h.ne e.symm))

end Go.Proofs.YtgjjcbcmjbnfnaaDoor
