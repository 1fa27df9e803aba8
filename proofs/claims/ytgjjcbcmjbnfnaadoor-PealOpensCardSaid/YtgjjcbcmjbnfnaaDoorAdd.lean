/- The walks of the changes of a list; no statement of the seat is proved here. -/
import Derived.Test.YtgjjcbcmjbnfnaaDoorOpen
namespace Go.Proofs.YtgjjcbcmjbnfnaaDoor
open Go.RowKit

theorem strs_one (l : List ByteArray) : ∀ u ∈ strs l, u.oneCell' = true := by
  intro u hu; simp only [strs, List.mem_map] at hu; obtain ⟨c, _, rfl⟩ := hu; rfl
@[simp] theorem strs_length (l : List ByteArray) : (strs l).length = l.length := by simp [strs]

set_option maxRecDepth 100000 in
theorem cloneStrs_any (g o n c : Nat) (w : World) (l : List ByteArray) (hn : l.length = n) (hb : n < 1000000) (hl : ∀ j u, (strs l)[j]? = some u → w.cell? ((⟨g, o, none⟩ : Addr).add j) = some u) :
    Calls Tryd.prog 46 #[.slice (some ⟨g, o, none⟩) n c] w fun e w' => ∃ v, e = .returned v ∧ w'.ownsRow w.heap.size 9 1 v n (strs l) ∧ Upd w.heap.size [] w w' := by
  obtain ⟨i0, hi, hz0, hz1, hz2⟩ := info_parts Tryd.info9
  have q22 : ∀ (w : World) (a : Option Addr) (n c : Nat), (binOp .eql 22 (.slice a n c) (.slice none 0 0)).run Tryd.prog w = .ok (.bool a.isNone) w := fun w a n c => Lib.run_eql_slice_nil w _ _ a n c 0 0 Tryd.underlying22
  have hown := World.ownsRow_made (e := 9) (size := 1) (base := w.heap.size) w #[] 0 (Nat.le_refl _) (by simp [maxLen]) rfl
  have hl2 : ∀ j u, (strs l)[j]? = some u → (w.alloc (.cells #[] 9)).cell? ((⟨g, o, none⟩ : Addr).add j) = some u := by
    intro j u hj
    have h1 := hl j u hj
    rw [World.cell?_alloc_lt _ _ _ (World.block_lt_of_cell? w _ h1)]; exact h1
  have HL := Lib.hid hl2; clear hl hl2
  have HN := Lib.hid hn; clear hn
  go_enter Tryd.func46, Tryd.ntmps46
  go_wp2_with (at_builtin; refine wpList_append_own _ rfl _ _ 22 rfl w.heap.size 9 i0 (.string ByteArray.empty) 1 16 Tryd.underlying22 hi hz0 hz1 hz2 rfl (by decide) _ _ _ rfl hown ⟨g, o, none⟩ n c (strs l) rfl ?c0 HL.out (strs_one l) ?c1 ?c2 ?c3 ?_)
  case c0 => simp [HN.out]
  case c1 => simp [maxLen]; omega
  case c2 => omega
  case c3 => simp
  intro v' w1 hown' hgrow hnil
  go_wp2
  go_ret
  exact ⟨v', rfl, hown', ((Upd.refl _ _ _).alloc (Nat.le_refl _) _).grown hgrow (by simp) (fun k hk => .inl (by cases hk; exact Nat.le_refl _))⟩

theorem IsList.row_ne {w : World} {p b : Nat} {L : Ls} {ts : List ByteArray} (h : IsList w p b L ts) {g : Nat} (hg : L.texts.ownBlock = some g) : g ≠ p ∧ ∃ cur, w.heap[g]? = some (.cells cur 9) := by
  rcases h.own.2 with ⟨h2, _⟩ | ⟨g', cap, cur, hv, hb, hgg, r⟩
  · rw [h2] at hg; cases hg
  · rw [hv] at hg
    obtain rfl : g' = g := by simpa [Value.ownBlock] using hg
    refine ⟨fun e => ?_, cur, hgg⟩
    subst e
    have h1 := hgg.symm.trans h.heap
    simp at h1

/-- An append of one value to an owned row: the row stays in its block, or lies in a new one. -/
theorem append_row (w : World) {ops : Array Oper} {rest : List Oper} {o : Oper} {a : Act} {Q : Exit → Act → World → Prop}
    (hg : o.guard = none) (s x : Operand) (t : TypeId) (hop : o.op = Op.call { callee := Callee.builtin Builtin.append, args := #[s, x], argTypes := #[t, t] })
    (e : TypeId) (i : TypeInfo) (z : Value) (bytes : Nat) (h1 : Tryd.prog.underlying t = some (.slice e)) (h2 : Tryd.prog.info? e = some i) (h3 : i.zero = some z) (h4 : i.size = 1) (h5 : i.bytes = bytes) (h6 : z.cells.size = 1)
    (av : Option Addr) (n cv : Nat) (xs : List Value) (hs : a.eval s = .slice av n cv) (hown : w.ownsRow 0 e 1 (.slice av n cv) n xs)
    (ad : Addr) (c : Nat) (u : Value) (hx : a.eval x = .slice (some ad) 1 c) (hc : w.cell? ad = some u) (h1c : u.oneCell' = true) (b1 : n + 1 ≤ maxLen) (b2 : (n + 1) * bytes ≤ 140737488355328)
    (hK : ∀ g' c' w', w'.ownsRow 0 e 1 (.slice (some ⟨g', 0, none⟩) (n + 1) c') (n + 1) (xs ++ [u]) → w.grownBy w' (Value.slice av n cv).ownBlock → ((Value.slice av n cv).ownBlock = some g' ∨ w.heap.size ≤ g') → wpList Tryd.prog ops Q rest (a.put o.dst (.slice (some ⟨g', 0, none⟩) (n + 1) c')) w') :
    wpList Tryd.prog ops Q (o :: rest) a w := by
  have hc' : ∀ j v, [u][j]? = some v → w.cell? (ad.add j) = some v := fun j v hj => by
    cases j with
    | zero => simp at hj; subst hj; simpa [Addr.add] using hc
    | succ j => simp at hj
  have hu : ∀ v ∈ [u], v.oneCell' = true := fun v hv => by simp at hv; subst hv; exact h1c
  have hlen : xs.length = n := by simpa using hown.1
  by_cases hfit : n + 1 ≤ cv
  · rcases hown.2 with ⟨h0, _⟩ | ⟨g, cap, cur, hv, hb, hgg, r⟩
    · cases h0; omega
    · cases hv
      exact wpList_append_fits w hg s x t hop 0 e i 1 h1 h2 h4 g n cv xs hs hown ad 1 c [u] hx rfl hc' hu hfit (fun w' ho hgr => hK g cv w' ho hgr (.inl rfl))
  · have hK' : ∀ v' w', w'.ownsRow w.heap.size e 1 v' (n + 1) (xs ++ [u]) → w.grownBy w' none → wpList Tryd.prog ops Q rest (a.put o.dst v') w' := fun v' w' ho hgr => by
      obtain ⟨g', c', rfl⟩ := own_succ ho
      exact hK g' c' w' (ownsRow_base ho (Nat.zero_le _)) ⟨hgr.os, hgr.tape, hgr.output, hgr.size, fun k hk _ => hgr.block k hk (by simp)⟩ (.inr (ho.lt g' rfl).1)
    refine wpList_append_grows w hg s x t hop e i z 1 bytes h1 h2 h3 h4 h5 h6 (by decide) av n cv xs hs (fun ha => ?_) (by simpa using hlen) (fun b hb => ?_) ad 1 c [u] hx rfl hc' hu (by omega) b1 b2 hK'
    · rcases hown.2 with ⟨h0, h00⟩ | ⟨g, cap, cur, hv, hb, hgg, r⟩
      · cases h0; exact ⟨rfl, rfl⟩
      · cases hv; cases ha
    · rcases hown.2 with ⟨h0, h00⟩ | ⟨g, cap, cur, hv, hbb, hgg, r⟩
      · cases h0; cases hb
      · cases hv; cases hb; exact fun j v hj => hown.cells (g := g) rfl j v hj

/-- The texts behind an Add. -/
def addK (ts : List ByteArray) (t : ByteArray) : List ByteArray := if (ts ++ [t]).length > 40 then (ts ++ [t]).drop 1 else ts ++ [t]

set_option maxHeartbeats 4000000 in
set_option maxRecDepth 100000 in
theorem add_closed (p b : Nat) (w : World) (L : Ls) (ts : List ByteArray) (s : Dk) (t : ByteArray) (hL : IsList w p b L ts) (hD : IsDisk w b s) (hw : L.works s = false) :
    Calls Tryd.prog 12 #[.pointer (some ⟨p, 0, none⟩), .string t] w fun e w' => e = .returned (.tuple #[.int .i64 0, .int .i64 6]) ∧ ∃ n, w' = w.drewN n := by
  have HW := Lib.hid (works_any p b w L ts s hL hD)
  rw [hw] at HW
  clear hL hD
  go_enter Tryd.func12, Tryd.ntmps12
  go_wp2_with (go_at_call 45; refine HW.out.mono ?_; rintro e w' ⟨rfl, n, rfl⟩)
  go_ret2
  exact ⟨rfl, _, rfl⟩

theorem add_long (p b : Nat) (w : World) (L : Ls) (ts : List ByteArray) (s : Dk) (t : ByteArray) (hL : IsList w p b L ts) (hD : IsDisk w b s) (hw : L.works s = true) (ht : 24 < t.size) :
    Calls Tryd.prog 12 #[.pointer (some ⟨p, 0, none⟩), .string t] w fun e w' => e = .returned (.tuple #[.int .i64 0, .int .i64 1]) ∧ ∃ n, w' = w.drewN n := by
  have HW := Lib.hid (works_any p b w L ts s hL hD)
  rw [hw] at HW
  have ht' : (24 : Int) < t.size := by omega
  clear hL hD
  go_enter Tryd.func12, Tryd.ntmps12
  go_wp2_with (go_at_call 45; refine HW.out.mono ?_; rintro e w' ⟨rfl, n, rfl⟩)
  go_ret2
  exact ⟨rfl, _, rfl⟩

set_option maxHeartbeats 4000000 in
set_option maxRecDepth 100000 in
theorem add_any (p b : Nat) (w : World) (L : Ls) (ts : List ByteArray) (s : Dk) (t : ByteArray) (hL : IsList w p b L ts) (hD : IsDisk w b s) (hw : L.works s = true) (ht : t.size ≤ 24) (hts : ts.length ≤ 40) (hl : L.last < 281474976710656) :
    Calls Tryd.prog 12 #[.pointer (some ⟨p, 0, none⟩), .string t] w fun e w' => e = .returned (.tuple #[.int .i64 (L.last + 1), .int .i64 0]) ∧ ∃ v,
      IsList w' p b { L with dirty := true, last := L.last + 1, texts := v } (addK ts t) ∧ (∀ g, v.ownBlock = some g → L.texts.ownBlock = some g ∨ w.heap.size ≤ g) ∧ Upd w.heap.size (p :: L.texts.ownBlock.toList) w w' := by
  obtain ⟨i0, hi, hz0, hz1, hz2⟩ := info_parts Tryd.info9
  have HW := Lib.hid (works_any p b w L ts s hL hD)
  rw [hw] at HW
  obtain ⟨av, cv, hv⟩ := own_form hL.own
  have c9 := hL.c9
  have c11 := hL.c11
  have f8 := hL.fr 8
  have c8 := hL.c8
  have f9 := hL.fr 9
  have f11 := hL.fr 11
  have hplt := hL.lt
  rw [hv] at c11
  have HV := Lib.hid hv
  have HL := Lib.hid hL
  have HOw : Hid (∀ n, ((w.drewN n).alloc (.cells #[.string t] 9)).ownsRow 0 9 1 (.slice av ts.length cv) ts.length (strs ts)) := fun n => by
    have h1 := hL.own
    rw [hv] at h1
    exact World.ownsRow.alloc (w := w.drewN n) h1 _
  clear hL hD hv
  go_enter Tryd.func12, Tryd.ntmps12
  go_wp2_with (first | (go_at_call 45; refine HW.out.mono ?_; rintro e w' ⟨rfl, n, rfl⟩; have hown0 := HOw.out n) | (at_builtin; refine append_row _ rfl _ _ 22 rfl 9 i0 (.string ByteArray.empty) 16 Tryd.underlying22 hi hz0 hz1 hz2 rfl av ts.length cv (strs ts) rfl hown0 ⟨w.heap.size, 0, none⟩ 1 (.string t) rfl ?c1 rfl ?c2 ?c3 ?_))
  case c1 => exact cell_of_heap (w := (w.drewN n).alloc (.cells [Value.string t].toArray 9)) (j := 0) (l := [.string t]) (alloc_new (w := w.drewN n) _ rfl)
  case c2 => simp [maxLen]; omega
  case c3 => omega
  intro g1 c1 w1 hown1 hgrow1 hnew
  have hsz1 : w.heap.size + 1 ≤ w1.heap.size := by have := hgrow1.size; simpa using this
  have hrow : ∀ g, (Value.slice av ts.length cv).ownBlock = some g → L.texts.ownBlock = some g := fun g hg => by rw [HV.out]; exact hg
  have hU0 : Upd w.heap.size (p :: L.texts.ownBlock.toList) w ((w.drewN n).alloc (.cells #[.string t] 9)) := by
    refine Upd.of_below ((below_drewN (Below.refl _ w) n).alloc (Nat.le_refl _) _) _
  have hU1 : Upd w.heap.size (p :: L.texts.ownBlock.toList) w w1 :=
    hU0.grown hgrow1 hU0.size (fun k hk => .inr (by simp [hrow k hk]))
  have hp1 : w1.heap[p]? = some (.cells (L.cells b).toArray 93) := by
    rw [hgrow1.block p (by simp; omega) (fun e => (HL.out.row_ne (hrow p e.symm)).1 rfl), Below.heap_alloc _ _ _ (by simpa using hplt)]
    exact HL.out.heap
  have hg1 : ∀ g, (Value.slice (some ⟨g1, 0, none⟩) (ts.length + 1) c1).ownBlock = some g → L.texts.ownBlock = some g ∨ w.heap.size ≤ g := by
    intro g hg
    obtain rfl : g1 = g := by simpa [Value.ownBlock] using hg
    rcases hnew with h | h
    · exact .inl (hrow _ h)
    · refine .inr (Nat.le_trans ?_ h); simp
  have e1 : strs (ts ++ [t]) = strs ts ++ [.string t] := by simp [strs]
  have HL2 : ∀ W, ((w1.setCell ⟨p, 11, none⟩ (.slice (some ⟨g1, 0, none⟩) (ts.length + 1) c1)).setCell ⟨p, 8, none⟩ (.bool true)).setCell ⟨p, 9, none⟩ (.int .i64 (L.last + 1)) = W → IsList W p b { L with dirty := true, last := L.last + 1, texts := .slice (some ⟨g1, 0, none⟩) (ts.length + 1) c1 } (ts ++ [t]) ∧ Upd w.heap.size (p :: L.texts.ownBlock.toList) w W := by
    rintro W rfl
    refine ⟨⟨by rw [setCell_heap 9 _ (setCell_heap 8 _ (setCell_heap 11 _ hp1))]; rfl, ?_⟩, ((hU1.setCell _ (.inr (by simp)) _).setCell _ (.inr (by simp)) _).setCell _ (.inr (by simp)) _⟩
    show World.ownsRow _ _ _ _ _ _ _
    rw [e1, show (ts ++ [t]).length = ts.length + 1 by simp]
    refine own_keep hown1 (fun g cur hg _ => ?_)
    have hgp : g ≠ p := fun e => by subst e; have h1 := hg.symm.trans hp1; simp at h1
    rw [Below.heap_setCell _ _ _ _ hgp, Below.heap_setCell _ _ _ _ hgp, Below.heap_setCell _ _ _ _ hgp]
  have d8 : w1.cell? ⟨p, 8, none⟩ = some (.bool L.dirty) := by rw [cell_of_heap hp1]; rfl
  have d11 : w1.cell? ⟨p, 11, none⟩ = some (.slice av ts.length cv) := by rw [cell_of_heap hp1, ← HV.out]; rfl
  have d9 : w1.cell? ⟨p, 9, none⟩ = some (.int .i64 L.last) := by rw [cell_of_heap hp1]; rfl
  have q8 : w1.frozen? ⟨p, 8, none⟩ = false := frozen_of_heap hp1
  have q9 : w1.frozen? ⟨p, 9, none⟩ = false := frozen_of_heap hp1
  have q11 : w1.frozen? ⟨p, 11, none⟩ = false := frozen_of_heap hp1
  have HL2' := Lib.hid HL2
  have HO1 := Lib.hid hown1
  clear HL2 hp1 hown1 hgrow1 hU0 hU1 hown0 c8 c9 c11 f8 f9 f11 HOw HW hnew
  by_cases hlen : ts.length + 1 ≤ 40
  · have hlen' : ¬ (40 : Int) < (ts.length : Int) + 1 := by omega
    go_wp2_with fail
    generalize hW : ((w1.setCell ⟨p, 11, none⟩ (.slice (some ⟨g1, 0, none⟩) (ts.length + 1) c1)).setCell ⟨p, 8, none⟩ (.bool true)).setCell ⟨p, 9, none⟩ (.int .i64 (L.last + 1)) = W
    obtain ⟨r1, r2⟩ := HL2'.out W hW
    go_ret2
    refine ⟨rfl, .slice (some ⟨g1, 0, none⟩) (ts.length + 1) c1, ?_, hg1, r2⟩
    rw [addK, if_neg (by simp; omega)]
    exact r1
  · have hlen' : (40 : Int) < (ts.length : Int) + 1 := by omega
    have hcc : ts.length + 1 ≤ c1 := by
      rcases HO1.out.2 with ⟨h0, _⟩ | ⟨g', cap', cur, hv', hb, hg, hnc, _⟩
      · cases h0
      · cases hv'; exact hnc
    have hc1 : ¬ c1 = 1 := by omega
    go_wp2_with fail
    generalize hW : ((w1.setCell ⟨p, 11, none⟩ (.slice (some ⟨g1, 0, none⟩) (ts.length + 1) c1)).setCell ⟨p, 8, none⟩ (.bool true)).setCell ⟨p, 9, none⟩ (.int .i64 (L.last + 1)) = W
    obtain ⟨r1, r2⟩ := HL2'.out W hW
    have e2 : (ts ++ [t]).drop 1 = addK ts t := by rw [addK, if_pos (by simp; omega)]
    have hcl := cloneStrs_any g1 1 ts.length (c1 - 1) W (addK ts t) (by rw [← e2]; simp) (by omega) (fun j u hj => by
      rw [add_addr]
      have h2 : (strs (ts ++ [t]))[1 + j]? = some u := by
        rw [← e2, strs, List.map_drop, List.getElem?_drop] at hj; exact hj
      have := r1.own.cells (g := g1) rfl (1 + j) u h2
      rwa [add_addr, Nat.zero_add] at this)
    have k11 := r1.c11
    have k9 := r1.c9
    have j11 := r1.fr 11
    have R1 := Lib.hid r1
    have R2 := Lib.hid r2
    clear HL2' hW r1 r2 d8 d9 d11 q8 q9 q11 e1
    refine hcl.mono ?_
    rintro e w5 ⟨v5, rfl, hown5, hU5⟩
    clear hcl
    obtain ⟨a5, c5, rfl⟩ := own_form hown5
    have hWp := R1.out.lt
    have l11 : w5.cell? ⟨p, 11, none⟩ = some (.slice (some ⟨g1, 0, none⟩) (ts.length + 1) c1) := (hU5.cell (p := ⟨p, 11, none⟩) hWp (by simp)).trans k11
    have l9 : w5.cell? ⟨p, 9, none⟩ = some (.int .i64 ((L.last + 1 : Nat) : Int)) := (hU5.cell (p := ⟨p, 9, none⟩) hWp (by simp)).trans k9
    have m11 : w5.frozen? ⟨p, 11, none⟩ = false := (hU5.frozen (p := ⟨p, 11, none⟩) hWp (by simp)).trans j11
    have hp5 := (hU5.block p hWp (by simp)).trans R1.out.heap
    have hWs := R2.out.size
    have hF : ∀ W', w5.setCell ⟨p, 11, none⟩ (.slice a5 ts.length c5) = W' → IsList W' p b { L with dirty := true, last := L.last + 1, texts := .slice a5 ts.length c5 } (addK ts t) ∧ Upd w.heap.size (p :: L.texts.ownBlock.toList) w W' := by
      rintro W' rfl
      refine ⟨⟨by rw [setCell_heap 11 _ hp5]; rfl, ?_⟩, (R2.out.trans (hU5.mono hWs (by simp))).setCell _ (.inr (by simp)) _⟩
      show World.ownsRow _ _ _ _ _ _ _
      rw [show (addK ts t).length = ts.length by rw [← e2]; simp]
      refine own_keep (ownsRow_base hown5 (Nat.zero_le _)) (fun g cur hg _ => ?_)
      have hgp : g ≠ p := fun e => by subst e; have h1 := hg.symm.trans hp5; simp at h1
      rw [Below.heap_setCell _ _ _ _ hgp]
    have hF2 : ∀ g, (Value.slice a5 ts.length c5).ownBlock = some g → L.texts.ownBlock = some g ∨ w.heap.size ≤ g := fun g hg => .inr (Nat.le_trans hWs (hown5.lt g hg).1)
    have HF := Lib.hid hF
    have HF2 := Lib.hid hF2
    clear hF hF2 hU5 hown5 hp5 k11 k9 j11 R1 R2
    go_wp2_with fail
    generalize hW5 : w5.setCell ⟨p, 11, none⟩ (.slice a5 ts.length c5) = W'
    obtain ⟨r1, r2⟩ := HF.out W' hW5
    go_ret2
    exact ⟨rfl, .slice a5 ts.length c5, r1, HF2.out, r2⟩
end Go.Proofs.YtgjjcbcmjbnfnaaDoor
