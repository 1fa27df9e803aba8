/- The walk of Kept; no statement of the seat is proved here. -/
import Derived.Test.YtgjjcbcmjbnfnaaDoorShow
namespace Go.Proofs.YtgjjcbcmjbnfnaaDoor
open Go.RowKit

/-- Entries as cells, from a number on. -/
def ents : Int → List ByteArray → List Value
  | _, [] => []
  | a, t :: ts => .int .i64 a :: .string t :: ents (a + 1) ts
theorem ents_snoc (ts : List ByteArray) (t : ByteArray) : ∀ a, ents a (ts ++ [t]) = ents a ts ++ [.int .i64 (a + ts.length), .string t] := by
  induction ts with
  | nil => intro a; simp [ents]
  | cons x ts ih => intro a; simp only [List.cons_append, ents, ih, List.length_cons]; rw [show a + 1 + (ts.length : Int) = a + ((ts.length + 1 : Nat) : Int) by omega]

theorem Tryd.info40 : (Tryd.prog.info? 40).map (fun i => (i.zero, i.size, i.bytes)) = some (some (.agg #[.int .i64 0, .string ByteArray.empty]), 2, 24) := by kernel_rfl

set_option maxHeartbeats 4000000 in
set_option maxRecDepth 100000 in
theorem kept_any (p b : Nat) (w : World) (L : Ls) (ts : List ByteArray) (hL : IsList w p b L ts) (hts : ts.length ≤ 40) (hl : L.last < 281474976710656) :
    Calls Tryd.prog 13 #[.pointer (some ⟨p, 0, none⟩)] w fun e w' => ∃ v, e = .returned (.tuple #[v, .int .i64 0]) ∧ w'.ownsRow w.heap.size 40 2 v ts.length (ents (L.last - ts.length + 1) ts) ∧ Below w.heap.size w w' := by
  obtain ⟨i0, hi, hz0, hz1, hz2⟩ := info_parts Tryd.info40
  obtain ⟨av, cv, hv⟩ := own_form hL.own
  have c0 := hL.c0
  have c11 := hL.c11
  rw [hv] at c11
  have hpl := hL.lt
  have HV := Lib.hid hv
  have HL := Lib.hid hL
  clear hL hv
  go_enter Tryd.func13, Tryd.ntmps13
  go_wp2_with fail
  go_loopw [4, 22] (fun v i wr => ∃ k : Nat, k ≤ ts.length ∧ i = .int .i64 k ∧ Hid (wr.ownsRow w.heap.size 40 2 v k (ents (L.last - ts.length + 1) (ts.take k))) ∧ Below w.heap.size w wr)
    (fun _ i _ => ts.length - (intOf i).toNat)
  case atStart => exact ⟨0, Nat.zero_le _, rfl, World.ownsRow_nil _ _ _ _, Below.refl _ _⟩
  case round =>
    obtain ⟨k, hk, rfl, hown, hb⟩ := hrel
    by_cases hlt : k < ts.length
    · obtain ⟨g, rfl⟩ : ∃ g, av = some ⟨g, 0, none⟩ := by
        rcases HL.out.own.2 with ⟨h0, h1⟩ | ⟨g, cap, cur, h0, _⟩
        · omega
        · rw [HV.out] at h0; cases h0; exact ⟨g, rfl⟩
      have hcell : w.cell? ⟨g, k, none⟩ = some (.string ts[k]) := by
        have h1 := HL.out.own
        rw [HV.out] at h1
        have := h1.cells (g := g) rfl k (.string ts[k]) (by simp [strs, hlt])
        rwa [add_addr, Nat.zero_add] at this
      have hgl := World.block_lt_of_cell? w _ hcell
      have hw1 : IntKind.i64.wrap ((L.last : Int) - (ts.length : Int)) = (L.last : Int) - ts.length := by rw [IntKind.wrap_i64]; omega
      have hw2 : IntKind.i64.wrap ((L.last : Int) - (ts.length : Int) + 1) = (L.last : Int) - ts.length + 1 := by rw [IntKind.wrap_i64]; omega
      have hw3 : IntKind.i64.wrap ((L.last : Int) - (ts.length : Int) + 1 + (k : Int)) = (L.last : Int) - ts.length + 1 + k := by rw [IntKind.wrap_i64]; omega
      have hcw : wr.cell? ⟨g, k, none⟩ = some (.string ts[k]) := by rw [hb.cell (p := ⟨g, k, none⟩) hgl]; exact hcell
      have hcapk : ts.length ≤ cv := by
        rcases HL.out.own.2 with ⟨h0, h1⟩ | ⟨g', cap, cur, h0, _, _, hnc, _⟩
        · omega
        · rw [HV.out] at h0; cases h0; exact hnc
      obtain ⟨W, hW⟩ : ∃ W, W = wr.drew := ⟨_, rfl⟩
      have hbW : Below w.heap.size w W := by rw [hW]; exact hb.drew
      have W9 : W.cell? ⟨p, 9, none⟩ = some (.int .i64 L.last) := by rw [hbW.cell (p := ⟨p, 9, none⟩) hpl]; exact HL.out.c9
      have W11 : W.cell? ⟨p, 11, none⟩ = some (.slice (some ⟨g, 0, none⟩) ts.length cv) := by rw [hbW.cell (p := ⟨p, 11, none⟩) hpl]; exact c11
      have hownW : W.ownsRow w.heap.size 40 2 u4 k (ents (L.last - ts.length + 1) (ts.take k)) := by rw [hW]; exact own_drew hown.out
      have HOW := Lib.hid hownW
      have HBW := Lib.hid hbW
      have HS0 : Hid (wr.drew.cell? ⟨p, 9, none⟩ = some (.int .i64 L.last) ∧ wr.drew.cell? ⟨p, 11, none⟩ = some (.slice (some ⟨g, 0, none⟩) ts.length cv)) := by rw [← hW]; exact ⟨W9, W11⟩
      have HP := Lib.hid hpl
      clear c0 c11 hcell hownW hbW hb hown W9 W11
      subst hW
      go_wp2_with fail
      refine wp_region_noPanic ?_
      refine wp_region_held_drew (S := fun w' => w'.cell? ⟨p, 9, none⟩ = some (.int .i64 L.last) ∧ w'.cell? ⟨p, 11, none⟩ = some (.slice (some ⟨g, 0, none⟩) ts.length cv)) (by kernel_rfl) HS0.out (fun hS0 => ?_)
      refine wpAnyH_take (i := 0) (oi := { dst := some 27, op := Op.move (Operand.tmp 4), type := 35, pos := "list.go:119", after := #[], guard := none }) (v := ?_) rfl (by kernel_rfl) (by kernel_rfl) (by kernel_rfl) (fun _ _ _ h => h) (Or.inl ⟨by rfl, ?_⟩) hS0 ?_
      rotate_left
      · rintro w ⟨y0, y1⟩; go_simp; with_reducible rfl
      simp only [Act.put, List.setIfInBounds_toArray, List.set_cons_zero, List.set_cons_succ]
      refine wpAnyH_take (i := 1) (oi := { dst := some 28, op := Op.move (Operand.tmp 0), type := 30, pos := "list.go:119", after := #[], guard := none }) (v := ?_) rfl (by kernel_rfl) (by kernel_rfl) (by kernel_rfl) (fun _ _ _ h => h) (Or.inl ⟨by rfl, ?_⟩) hS0 ?_
      rotate_left
      · rintro w ⟨y0, y1⟩; go_simp; with_reducible rfl
      simp only [Act.put, List.setIfInBounds_toArray, List.set_cons_zero, List.set_cons_succ]
      refine wpAnyH_take (i := 2) (oi := { dst := some 29, op := Op.nilCheck (Operand.tmp 28), type := 0, pos := "list.go:119", after := #[{ on := 1, ground := Ground.data }], guard := none }) (v := ?_) rfl (by kernel_rfl) (by kernel_rfl) (by kernel_rfl) (fun _ _ _ h => h) (Or.inl ⟨by rfl, ?_⟩) hS0 ?_
      rotate_left
      · rintro w ⟨y0, y1⟩; go_simp; with_reducible rfl
      simp only [Act.put, List.setIfInBounds_toArray, List.set_cons_zero, List.set_cons_succ]
      refine wpAnyH_take (i := 3) (oi := { dst := some 30, op := Op.fieldAddr 93 (Operand.tmp 29) 7, type := 0, pos := "list.go:119", after := #[{ on := 2, ground := Ground.data }], guard := none }) (v := ?_) rfl (by kernel_rfl) (by kernel_rfl) (by kernel_rfl) (fun _ _ _ h => h) (Or.inl ⟨by rfl, ?_⟩) hS0 ?_
      rotate_left
      · rintro w ⟨y0, y1⟩; go_simp; with_reducible rfl
      simp only [Act.put, List.setIfInBounds_toArray, List.set_cons_zero, List.set_cons_succ]
      refine wpAnyH_take (i := 4) (oi := { dst := some 31, op := Op.fieldAddr 91 (Operand.tmp 30) 0, type := 0, pos := "list.go:119", after := #[{ on := 3, ground := Ground.data }], guard := none }) (v := ?_) rfl (by kernel_rfl) (by kernel_rfl) (by kernel_rfl) (fun _ _ _ h => h) (Or.inl ⟨by rfl, ?_⟩) hS0 ?_
      rotate_left
      · rintro w ⟨y0, y1⟩; go_simp; with_reducible rfl
      simp only [Act.put, List.setIfInBounds_toArray, List.set_cons_zero, List.set_cons_succ]
      refine wpAnyH_take (i := 5) (oi := { dst := some 32, op := Op.load 3 (Operand.tmp 31), type := 3, pos := "list.go:119", after := #[{ on := 4, ground := Ground.data }], guard := none }) (v := ?_) rfl (by kernel_rfl) (by kernel_rfl) (by kernel_rfl) (fun _ _ _ h => h) (Or.inl ⟨by rfl, ?_⟩) hS0 ?_
      rotate_left
      · rintro w ⟨y0, y1⟩; go_simp; with_reducible rfl
      simp only [Act.put, List.setIfInBounds_toArray, List.set_cons_zero, List.set_cons_succ]
      refine wpAnyH_take (i := 6) (oi := { dst := some 33, op := Op.move (Operand.tmp 0), type := 30, pos := "list.go:119", after := #[], guard := none }) (v := ?_) rfl (by kernel_rfl) (by kernel_rfl) (by kernel_rfl) (fun _ _ _ h => h) (Or.inl ⟨by rfl, ?_⟩) hS0 ?_
      rotate_left
      · rintro w ⟨y0, y1⟩; go_simp; with_reducible rfl
      simp only [Act.put, List.setIfInBounds_toArray, List.set_cons_zero, List.set_cons_succ]
      refine wpAnyH_take (i := 7) (oi := { dst := some 34, op := Op.nilCheck (Operand.tmp 33), type := 0, pos := "list.go:119", after := #[{ on := 6, ground := Ground.data }], guard := none }) (v := ?_) rfl (by kernel_rfl) (by kernel_rfl) (by kernel_rfl) (fun _ _ _ h => h) (Or.inl ⟨by rfl, ?_⟩) hS0 ?_
      rotate_left
      · rintro w ⟨y0, y1⟩; go_simp; with_reducible rfl
      simp only [Act.put, List.setIfInBounds_toArray, List.set_cons_zero, List.set_cons_succ]
      refine wpAnyH_take (i := 8) (oi := { dst := some 35, op := Op.fieldAddr 93 (Operand.tmp 34) 7, type := 0, pos := "list.go:119", after := #[{ on := 7, ground := Ground.data }], guard := none }) (v := ?_) rfl (by kernel_rfl) (by kernel_rfl) (by kernel_rfl) (fun _ _ _ h => h) (Or.inl ⟨by rfl, ?_⟩) hS0 ?_
      rotate_left
      · rintro w ⟨y0, y1⟩; go_simp; with_reducible rfl
      simp only [Act.put, List.setIfInBounds_toArray, List.set_cons_zero, List.set_cons_succ]
      refine wpAnyH_take (i := 9) (oi := { dst := some 36, op := Op.fieldAddr 91 (Operand.tmp 35) 2, type := 0, pos := "list.go:119", after := #[{ on := 8, ground := Ground.data }], guard := none }) (v := ?_) rfl (by kernel_rfl) (by kernel_rfl) (by kernel_rfl) (fun _ _ _ h => h) (Or.inl ⟨by rfl, ?_⟩) hS0 ?_
      rotate_left
      · rintro w ⟨y0, y1⟩; go_simp; with_reducible rfl
      simp only [Act.put, List.setIfInBounds_toArray, List.set_cons_zero, List.set_cons_succ]
      refine wpAnyH_take (i := 10) (oi := { dst := some 37, op := Op.load 22 (Operand.tmp 36), type := 22, pos := "list.go:119", after := #[{ on := 9, ground := Ground.data }], guard := none }) (v := ?_) rfl (by kernel_rfl) (by kernel_rfl) (by kernel_rfl) (fun _ _ _ h => h) (Or.inl ⟨by rfl, ?_⟩) hS0 ?_
      rotate_left
      · rintro w ⟨y0, y1⟩; go_simp; with_reducible rfl
      simp only [Act.put, List.setIfInBounds_toArray, List.set_cons_zero, List.set_cons_succ]
      refine wpAnyH_take (i := 11) (oi := { dst := some 38, op := Op.call { callee := Callee.builtin Builtin.len, args := #[Operand.tmp 37], argTypes := #[22] }, type := 3, pos := "list.go:119", after := #[{ on := 10, ground := Ground.data }], guard := none }) (v := ?_) rfl (by kernel_rfl) (by kernel_rfl) (by kernel_rfl) (fun _ _ _ h => h) (Or.inl ⟨by rfl, ?_⟩) hS0 ?_
      rotate_left
      · rintro w ⟨y0, y1⟩; go_simp; with_reducible rfl
      simp only [Act.put, List.setIfInBounds_toArray, List.set_cons_zero, List.set_cons_succ]
      refine wpAnyH_take (i := 12) (oi := { dst := some 39, op := Op.binOp BinOp.sub 3 (Operand.tmp 32) (Operand.tmp 38) 3, type := 3, pos := "list.go:119", after := #[{ on := 5, ground := Ground.data }, { on := 11, ground := Ground.data }], guard := none }) (v := ?_) rfl (by kernel_rfl) (by kernel_rfl) (by kernel_rfl) (fun _ _ _ h => h) (Or.inl ⟨by rfl, ?_⟩) hS0 ?_
      rotate_left
      · rintro w ⟨y0, y1⟩; go_simp; with_reducible rfl
      simp only [Act.put, List.setIfInBounds_toArray, List.set_cons_zero, List.set_cons_succ]
      refine wpAnyH_take (i := 13) (oi := { dst := some 40, op := Op.binOp BinOp.add 3 (Operand.tmp 39) (Operand.const (Value.int IntKind.i64 1)) 3, type := 3, pos := "list.go:119", after := #[{ on := 12, ground := Ground.data }], guard := none }) (v := ?_) rfl (by kernel_rfl) (by kernel_rfl) (by kernel_rfl) (fun _ _ _ h => h) (Or.inl ⟨by rfl, ?_⟩) hS0 ?_
      rotate_left
      · rintro w ⟨y0, y1⟩; go_simp; with_reducible rfl
      simp only [Act.put, List.setIfInBounds_toArray, List.set_cons_zero, List.set_cons_succ]
      refine wpAnyH_take (i := 14) (oi := { dst := some 41, op := Op.move (Operand.tmp 5), type := 3, pos := "list.go:119", after := #[], guard := none }) (v := ?_) rfl (by kernel_rfl) (by kernel_rfl) (by kernel_rfl) (fun _ _ _ h => h) (Or.inl ⟨by rfl, ?_⟩) hS0 ?_
      rotate_left
      · rintro w ⟨y0, y1⟩; go_simp; with_reducible rfl
      simp only [Act.put, List.setIfInBounds_toArray, List.set_cons_zero, List.set_cons_succ]
      refine wpAnyH_take (i := 15) (oi := { dst := some 42, op := Op.binOp BinOp.add 3 (Operand.tmp 40) (Operand.tmp 41) 3, type := 3, pos := "list.go:119", after := #[{ on := 13, ground := Ground.data }, { on := 14, ground := Ground.data }], guard := none }) (v := ?_) rfl (by kernel_rfl) (by kernel_rfl) (by kernel_rfl) (fun _ _ _ h => h) (Or.inl ⟨by rfl, ?_⟩) hS0 ?_
      rotate_left
      · rintro w ⟨y0, y1⟩; go_simp; with_reducible rfl
      simp only [Act.put, List.setIfInBounds_toArray, List.set_cons_zero, List.set_cons_succ]
      refine wpAnyH_take (i := 16) (oi := { dst := some 43, op := Op.move (Operand.tmp 6), type := 9, pos := "list.go:119", after := #[], guard := none }) (v := ?_) rfl (by kernel_rfl) (by kernel_rfl) (by kernel_rfl) (fun _ _ _ h => h) (Or.inl ⟨by rfl, ?_⟩) hS0 ?_
      rotate_left
      · rintro w ⟨y0, y1⟩; go_simp; with_reducible rfl
      simp only [Act.put, List.setIfInBounds_toArray, List.set_cons_zero, List.set_cons_succ]
      refine wpAnyH_take (i := 17) (oi := { dst := some 44, op := Op.build 40 #[(0, Operand.tmp 42), (1, Operand.tmp 43)], type := 40, pos := "list.go:119", after := #[{ on := 15, ground := Ground.data }, { on := 16, ground := Ground.data }], guard := none }) (v := ?_) rfl (by kernel_rfl) (by kernel_rfl) (by kernel_rfl) (fun _ _ _ h => h) (Or.inl ⟨by rfl, ?_⟩) hS0 ?_
      rotate_left
      · rintro w ⟨y0, y1⟩; go_simp; with_reducible rfl
      simp only [Act.put, List.setIfInBounds_toArray, List.set_cons_zero, List.set_cons_succ]
      have hS1 : ∀ o, (wr.drew.alloc o).cell? ⟨p, 9, none⟩ = some (.int .i64 L.last) ∧ (wr.drew.alloc o).cell? ⟨p, 11, none⟩ = some (.slice (some ⟨g, 0, none⟩) ts.length cv) := fun o => ⟨by rw [World.cell?_alloc_some _ _ _ (by rw [hS0.1]; rfl)]; exact hS0.1, by rw [World.cell?_alloc_some _ _ _ (by rw [hS0.2]; rfl)]; exact hS0.2⟩
      refine wpAnyH_ready (rs := [18]) (by kernel_rfl) (by simp) ?_
      refine AllReadyH.cons (o := { dst := some 45, op := Op.buildSlice 35 1 #[(0, Operand.tmp 44)], type := 35, pos := "list.go:119", after := #[{ on := 17, ground := Ground.data }], guard := none }) rfl (fun K hK => ?_) AllReadyH.nil
      go_simp
      refine hK.out _ _ (hS1 _) (fun _ => ?_)
      clear hK K
      refine wpAnyH_ready (rs := [19]) (by kernel_rfl) (by simp) ?_
      refine AllReadyH.cons (o := { dst := some 46, op := Op.call { callee := Callee.builtin Builtin.append, args := #[Operand.tmp 27, Operand.tmp 45], argTypes := #[35, 35] }, type := 35, pos := "list.go:119", after := #[{ on := 0, ground := Ground.data }, { on := 18, ground := Ground.data }], guard := none }) rfl (fun K hK => ?_) AllReadyH.nil
      rw [if_pos (by simp [Region.wanted])]
      refine wp_append_own _ _ _ 35 rfl w.heap.size 40 i0 _ 2 24 Tryd.underlying35 hi hz0 hz1 hz2 rfl (by decide) u4 k (ents (L.last - ts.length + 1) (ts.take k)) rfl (HOW.out.alloc _) ⟨wr.heap.size, 0, none⟩ 1 1 [.int .i64 ((L.last : Int) - ts.length + 1 + k), .string ts[k]] rfl rfl ?c1 ?c2 ?c3 ?c4 ?c5 (fun v' w6 hown6 hgrow6 _ => ?_)
      case c1 =>
        intro j u hj
        rw [add_addr, Nat.zero_add]
        refine (cell_of_heap (w := wr.alloc _) (b := wr.heap.size) (l := [.int .i64 ((L.last : Int) - ts.length + 1 + k), .string ts[k]]) (alloc_new _ rfl)).trans hj
      case c2 => simp [Value.oneCell']
      case c3 => simp [maxLen]; omega
      case c4 => omega
      case c5 => have := HBW.out.size; simp at this ⊢; omega
      have hb6 : Below w.heap.size w w6 := (HBW.out.alloc (by have := HBW.out.size; simp at this ⊢; omega) _).grown hgrow6 (by have := HBW.out.size; simp at this ⊢; omega) (fun g hg => (HOW.out.lt g hg).1)
      have hp6 : w6.cell? ⟨p, 9, none⟩ = some (.int .i64 L.last) ∧ w6.cell? ⟨p, 11, none⟩ = some (.slice (some ⟨g, 0, none⟩) ts.length cv) := by
        rw [hb6.cell (p := ⟨p, 9, none⟩) hpl, hb6.cell (p := ⟨p, 11, none⟩) hpl]
        refine ⟨HL.out.c9, ?_⟩
        rw [HL.out.c11, HV.out]
      refine hK.out _ _ hp6 (fun _ => ?_)
      clear hK K
      refine wpAnyH_ready (rs := [20]) (by kernel_rfl) (by simp) ?_
      refine AllReadyH.cons rfl (fun K hK => ?_) AllReadyH.nil
      go_simp
      refine hK.out _ _ hp6 (fun _ => ?_)
      clear hK K
      refine wpAnyH_done (by kernel_rfl) ?_ _
      refine NoPanic.normal ?_
      have HO6 : Hid (w6.ownsRow w.heap.size 40 2 v' (k + 1) (ents (L.last - ts.length + 1) (ts.take (k + 1)))) := by
        show World.ownsRow _ _ _ _ _ _ _
        rw [List.take_succ_eq_append_getElem hlt, ents_snoc, List.length_take, Nat.min_eq_left hk]
        exact hown6
      clear hown6 hgrow6 hp6 hS0 hS1 HOW HS0
      go_wp2
      go_roundw
      case rel => exact ⟨k + 1, by omega, by go_num, HO6, hb6⟩
      case measure => simp [intOf]; omega
    · have hk' : k = ts.length := by omega
      subst hk'
      have hown' : Hid (wr.ownsRow w.heap.size 40 2 u4 ts.length (ents (L.last - ts.length + 1) ts)) := by
        have h1 := hown.out
        rw [List.take_of_length_le (Nat.le_refl _)] at h1
        exact h1
      go_wp2
      go_ret2
      exact ⟨_, rfl, hown', hb⟩
end Go.Proofs.YtgjjcbcmjbnfnaaDoor
