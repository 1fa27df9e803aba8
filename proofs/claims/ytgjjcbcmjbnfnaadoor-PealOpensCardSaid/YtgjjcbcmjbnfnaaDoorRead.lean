/- The walk of the function that reads contents, with its deferred call; no statement of the seat is proved here. -/
import Derived.Test.YtgjjcbcmjbnfnaaDoorRdr
import Derived.Defers
import Derived.Recover
namespace Go.Proofs.YtgjjcbcmjbnfnaaDoor
open Go.RowKit

/-- The package's sentinel is there. -/
def GlobErr (w : World) : Prop := ∃ t v, w.cell? ⟨0, 0, none⟩ = some (.iface t v)

theorem read1_idle (p q : Addr) (w : World) (hG : GlobErr w) :
    CallsD Tryd.prog 81 #[.pointer (some p), .pointer (some q)] .returning w fun e u' w' => e = .returned (.tuple #[]) ∧ u' = .returning ∧ w = w' := by
  obtain ⟨t, v, hg⟩ := hG
  refine callsD_of_wpS Tryd.func81 rfl fun c₀ cs hu => ?_
  apply wpS_seq
  apply wpS_region
  simp [wpOpsS, go_sem, recoverD, hu, Tryd.ntmps81, Exit.thenS]
  refine wpS_of_wp ?_
  simp only [Array.replicate_succ, Array.replicate_zero, List.push_toArray, List.setIfInBounds_toArray, List.append_toArray, List.nil_append, List.cons_append, List.set_cons_succ, List.set_cons_zero]
  have he : ∀ (w : World), (binOp .eql 20 .nilIface (.iface t v)).run Tryd.prog w = .ok (.bool false) w := fun w => by
    have h : ∀ d : Nat, (Op.equalIn (d + 1) 20 .nilIface (.iface t v)).run Tryd.prog w = .ok false w := fun d => by
      simp [Op.equalIn, Tryd.runUnderlying20]
    simp only [binOp]
    simp [Op.equal, Op.maxDepth, h 9999]
  go_wp2
  cases c₀
  simp_all [bodyPostS, results, Tryd.results81]

def strs (ts : List ByteArray) : List Value := ts.map Value.string

theorem Tryd.info9 : (Tryd.prog.info? 9).map (fun i => (i.zero, i.size, i.bytes)) = some (some (.string ByteArray.empty), 1, 16) := by kernel_rfl


theorem Upd.undrew {B : Nat} {S : List Nat} {w w' : World} (h : Upd B S w.drew w') : Upd B S w w' := ⟨h.os, h.tape, h.output, h.size, h.block⟩
theorem own_upd {w w' : World} {base e size n : Nat} {v : Value} {xs : List Value} {S : List Nat} (h : w.ownsRow base e size v n xs) (hU : Upd w.heap.size S w w') (hS : ∀ x ∈ S, x < base) : w'.ownsRow base e size v n xs := by
  refine ⟨h.1, ?_⟩
  rcases h.2 with h2 | ⟨g, cap, cur, hv, hg, hb, r⟩
  · exact .inl h2
  · exact .inr ⟨g, cap, cur, hv, hg, (hU.block g (heap_lt hb) (fun hx => by have := hS g hx; omega)).trans hb, r⟩

theorem cb0 (last mark : Nat) (ts : List ByteArray) : cbytes last mark ts = num6 last ++ (num6 mark ++ (num6 ts.length ++ txts ts)) := by simp [cbytes, List.append_assoc]
theorem cb1 (last mark : Nat) (ts : List ByteArray) (h : last < 281474976710656) : rnum ((cbytes last mark ts).take 6) = last := by
  rw [cb0, List.take_left' (num6_length last), num6, rnum_num 6 last (by omega)]
theorem cb2 (last mark : Nat) (ts : List ByteArray) (h : mark < 281474976710656) : rnum (((cbytes last mark ts).drop 6).take 6) = mark := by
  rw [cb0, List.drop_left' (num6_length last), List.take_left' (num6_length mark), num6, rnum_num 6 mark (by omega)]
theorem cb3 (last mark : Nat) (ts : List ByteArray) : ((cbytes last mark ts).drop 6).drop 6 = num6 ts.length ++ txts ts := by
  rw [cb0, List.drop_left' (num6_length last), List.drop_left' (num6_length mark)]

/-- Where the reading stands: the contents so far, the flag, the reader's rest. -/
structure RdI (B : Nat) (W0 : World) (g : Nat) (last mark : Int) (v : Value) (l : List UInt8) (w' : World) : Prop where
  c : w'.heap[B]? = some (.cells [.int .i64 last, .int .i64 mark, v].toArray 91)
  ok : w'.heap[B + 1]? = some (.cells [.bool false].toArray 4)
  r : ∃ o' c', Rdr w' (B + 2) g o' c' l
  b : Below B W0 w'
  s : B + 3 ≤ w'.heap.size

theorem RdI.upd {B : Nat} {W0 : World} {g : Nat} {last mark : Int} {v : Value} {l l' : List UInt8} {w w' : World} (h : RdI B W0 g last mark v l w) (hU : Upd w.heap.size [B + 2] w w')
    (hr : ∃ o' c', Rdr w' (B + 2) g o' c' l') : RdI B W0 g last mark v l' w' := by
  have hs := h.s
  exact ⟨(hU.block B (by omega) (by simp)).trans h.c, (hU.block (B + 1) (by omega) (by simp)).trans h.ok, hr,
    h.b.trans (hU.mono (B' := B) (S' := []) (by omega) (fun x hx => by simp at hx; right; omega)).below, Nat.le_trans hs hU.size⟩

theorem own_succ {w : World} {base : Nat} {e : TypeId} {size : Nat} {v : Value} {k : Nat} {xs : List Value} (h : w.ownsRow base e size v (k + 1) xs) : ∃ g cap, v = .slice (some ⟨g, 0, none⟩) (k + 1) cap := by
  rcases h.2 with ⟨_, h0⟩ | ⟨g, cap, _, rfl, _⟩
  · omega
  · exact ⟨g, cap, rfl⟩

theorem own_form {w : World} {base : Nat} {e : TypeId} {size : Nat} {v : Value} {k : Nat} {xs : List Value} (h : w.ownsRow base e size v k xs) : ∃ a c, v = .slice a k c := by
  rcases h.2 with ⟨rfl, h0⟩ | ⟨g, cap, _, rfl, _⟩
  · exact ⟨none, 0, by rw [h0]⟩
  · exact ⟨_, cap, rfl⟩

theorem RdI.grown {B : Nat} {W0 : World} {g : Nat} {last mark : Int} {v : Value} {l : List UInt8} {w w' : World} {o : Obj} {row : Option Nat} (h : RdI B W0 g last mark v l w) (hr : ∀ k, row = some k → B + 3 ≤ k)
    (hg : (w.alloc o).grownBy w' row) (hgB : g < B) : RdI B W0 g last mark v l w' := by
  have hs := h.s
  have hsz := hg.size
  simp only [World.size_alloc] at hsz
  have hb : ∀ k, k < B + 3 → w'.heap[k]? = w.heap[k]? := fun k hk => by
    rw [hg.block k (by simp; omega) (fun e => by have := hr k e.symm; omega), Below.heap_alloc _ _ _ (by omega)]
  obtain ⟨o', c', h1, h2⟩ := h.r
  refine ⟨(hb B (by omega)).trans h.c, (hb (B + 1) (by omega)).trans h.ok, ⟨o', c', (hb (B + 2) (by omega)).trans h1, h2.1, fun i x hx => ?_⟩, ?_, by omega⟩
  · rw [World.cell?_of_block (w := w) (hb g (by omega))]; exact h2.2 i x hx
  · exact ⟨hg.os.trans h.b.os, hg.tape.trans h.b.tape, hg.output.trans h.b.output, Nat.le_trans h.b.size (by omega), fun k hk => (hb k (by omega)).trans (h.b.block k hk)⟩

theorem RdI.setC {B : Nat} {W0 : World} {g : Nat} {last mark : Int} {v : Value} {l : List UInt8} {w : World} (h : RdI B W0 g last mark v l w) (j : Nat) (u : Value) (last' mark' : Int) (v' : Value)
    (he : [.int .i64 last, .int .i64 mark, v].set j u = [.int .i64 last', .int .i64 mark', v']) (hg : g < B) : RdI B W0 g last' mark' v' l (w.setCell ⟨B, j, none⟩ u) := by
  obtain ⟨o', c', h1, h2⟩ := h.r
  refine ⟨?_, ?_, ⟨o', c', ?_, h2.1, fun i x hx => ?_⟩, (Upd.setCell (S := []) (Upd.of_below h.b _) _ (.inl (Nat.le_refl _)) _).below, by simpa using h.s⟩
  · rw [setCell_heap j u h.c, he]
  · rw [Below.heap_setCell _ _ _ _ (by simp)]; exact h.ok
  · rw [Below.heap_setCell _ _ _ _ (by simp)]; exact h1
  · rw [World.cell?_of_block (w := w) (Below.heap_setCell _ _ _ _ (by simp; omega))]; exact h2.2 i x hx

set_option maxHeartbeats 4000000 in
set_option maxRecDepth 100000 in
theorem reads_any (w : World) (g o cap last mark : Nat) (ts : List ByteArray) (hl : last < 281474976710656) (hm : mark < 281474976710656) (hts : ts.length ≤ 40) (h24 : ∀ s ∈ ts, s.size ≤ 24)
    (hS : SlB w g o cap (cbytes last mark ts)) (hG : GlobErr w) :
    Calls Tryd.prog 65 #[.slice (some ⟨g, o, none⟩) (cbytes last mark ts).length cap] w fun e w' => ∃ v, e = .returned (.tuple #[.agg #[.int .i64 last, .int .i64 mark, v], .bool true]) ∧
      w'.ownsRow w.heap.size 9 1 v ts.length (strs ts) ∧ Below w.heap.size w w' := by
  obtain ⟨i0, hi, hz0, hz1, hz2⟩ := info_parts Tryd.info9
  have hmf : ∀ (fn : Fn) (first cap : Array Value) (w : World), (Instr.makeFunc fn first cap).run Tryd.prog w = .ok (.func fn first cap) w := fun _ _ _ _ => rfl
  have hgB : g < w.heap.size := World.block_lt_of_cell? w ⟨g, o + 0, none⟩ (hS.2 0 (bv ((cbytes last mark ts)[0]?.getD 0)) (by rw [bvs_getElem?]; simp [cbytes, num6, numFrom]))
  generalize hw1 : ((w.alloc (.cells #[.int .i64 0, .int .i64 0, .slice none 0 0] 91)).alloc (.cells #[.bool false] 4)).alloc (.cells #[.slice (some ⟨g, o, none⟩) (cbytes last mark ts).length cap] 134) = W0
  have hI : RdI w.heap.size w g 0 0 (.slice none 0 0) (cbytes last mark ts) W0 := by
    subst hw1
    have hb : Below w.heap.size w (((w.alloc (.cells #[.int .i64 0, .int .i64 0, .slice none 0 0] 91)).alloc (.cells #[.bool false] 4)).alloc (.cells #[.slice (some ⟨g, o, none⟩) (cbytes last mark ts).length cap] 134)) :=
      (((Below.refl _ _).alloc (Nat.le_refl _) _).alloc (by simp) _).alloc (by simp; omega) _
    refine ⟨?_, ?_, ⟨o, cap, ?_, hS.below hb hgB⟩, hb, by simp⟩
    · rw [Below.heap_alloc _ _ _ (by simp; omega), Below.heap_alloc _ _ _ (by simp), alloc_new _ rfl]
    · rw [Below.heap_alloc _ _ _ (by simp), alloc_new _ (by simp)]
    · rw [alloc_new _ (by simp)]
  have HW1 := Lib.hid hw1
  have HI := Lib.hid hI
  clear hI hw1 hS
  go_enter_defers Tryd.func65, Tryd.ntmps65
  go_wp2_with fail
  rw [HW1.out]
  obtain ⟨o0, c0, hR⟩ := HI.out.r
  refine (rnumber_any W0 _ g o0 c0 _ (by simp [cbytes]) hR (by omega)).mono ?_
  rintro e w1 ⟨rfl, ⟨o1, hR1⟩, hU⟩
  have HI1 := Lib.hid (HI.out.upd hU ⟨_, _, hR1⟩)
  clear hR hR1 hU
  go_wp2_with fail
  obtain ⟨o0, c0, hR⟩ := HI1.out.r
  refine (rnumber_any w1 _ g o0 c0 _ (by simp [cbytes]) hR (by omega)).mono ?_
  rintro e w2 ⟨rfl, ⟨o1, hR1⟩, hU⟩
  have HI2 := Lib.hid (HI1.out.upd hU ⟨_, _, hR1⟩)
  clear hR hR1 hU
  have e1 := cb1 last mark ts hl
  have e2 := cb2 last mark ts hm
  have e3 := cb3 last mark ts
  rw [e1, e2]
  rw [e3] at HI2
  clear e1 e2 e3
  have k0 : w2.cell? ⟨w.heap.size, 0, none⟩ = some (.int .i64 0) := by rw [cell_of_heap HI2.out.c]; rfl
  have k1 : w2.cell? ⟨w.heap.size, 1, none⟩ = some (.int .i64 0) := by rw [cell_of_heap HI2.out.c]; rfl
  have f0 : ∀ j, w2.frozen? ⟨w.heap.size, j, none⟩ = false := fun j => frozen_of_heap HI2.out.c
  go_wp2_with fail
  have HI3 := Lib.hid (((HI2.out.setC 0 (.int .i64 last) last 0 _ rfl hgB)).setC 1 (.int .i64 mark) last mark _ rfl hgB)
  obtain ⟨w3, hw3⟩ : ∃ w3, w3 = ((w2.setCell ⟨w.heap.size, 0, none⟩ (.int .i64 last)).setCell ⟨w.heap.size, 1, none⟩ (.int .i64 mark)) := ⟨_, rfl⟩
  rw [← hw3] at HI3 ⊢
  clear hw3 k0 k1 f0 HI HI1 HI2 HW1
  obtain ⟨o0, c0, hR⟩ := HI3.out.r
  refine (rnumber_any w3 _ g o0 c0 _ (by simp) hR (by omega)).mono ?_
  rintro e w4 ⟨rfl, ⟨o1, hR1⟩, hU⟩
  have HI4 := Lib.hid (HI3.out.upd hU ⟨_, _, hR1⟩)
  clear hR hR1 hU HI3
  have e1 : rnum ((num6 ts.length ++ txts ts).take 6) = ts.length := by rw [List.take_left' (num6_length _), num6, rnum_num 6 ts.length (by omega)]
  have e2 : (num6 ts.length ++ txts ts).drop 6 = txts ts := List.drop_left' (num6_length _)
  rw [e1]
  rw [e2] at HI4
  clear e1 e2
  have hown0 : Hid (w4.ownsRow (w.heap.size + 3) 9 1 (.slice none 0 0) 0 (strs (ts.take 0))) := World.ownsRow_nil _ _ _ _
  have HI5 : Hid (RdI w.heap.size w g last mark (.slice none 0 0) (txts (ts.drop 0)) w4) := HI4.out
  clear HI4
  go_wp2
  go_loopw [17] (fun i wr => ∃ (k : Nat) (v : Value), k ≤ ts.length ∧ i = .int .i64 k ∧ Hid (RdI w.heap.size w g last mark v (txts (ts.drop k)) wr) ∧ Hid (wr.ownsRow (w.heap.size + 3) 9 1 v k (strs (ts.take k))))
    (fun i _ => ts.length - (intOf i).toNat)
  case atStart => exact ⟨0, _, Nat.zero_le _, rfl, HI5, hown0⟩
  case round =>
    clear HI5 hown0
    obtain ⟨k, v, hk, rfl, HR, HO⟩ := hrel
    by_cases hlt : k < ts.length
    · have c2 : wr.cell? ⟨w.heap.size, 2, none⟩ = some v := by rw [cell_of_heap HR.out.c]; rfl
      have f2 : ∀ j, wr.frozen? ⟨w.heap.size, j, none⟩ = false := fun j => frozen_of_heap HR.out.c
      have f3 : ∀ j, wr.drew.frozen? ⟨w.heap.size, j, none⟩ = false := fun j => f2 j
      obtain ⟨o2, c2', hRr⟩ := HR.out.r
      have hts' : txts (ts.drop k) = txt ts[k].data.toList ++ txts (ts.drop (k + 1)) := by rw [List.drop_eq_getElem_cons hlt, txts, List.flatMap_cons]; rfl
      have hstep : Hid (∀ w', (∃ o', Rdr w' (w.heap.size + 2) g o' (c2' - (ts[k].size + 1)) ((txts (ts.drop k)).drop (ts[k].size + 1))) → Upd wr.heap.size [w.heap.size + 2] wr w' → RdI w.heap.size w g last mark v (txts (ts.drop (k + 1))) w') := by
        intro w' h hU
        refine HR.out.upd hU ?_
        obtain ⟨o', h⟩ := h
        rw [hts', List.drop_left' (txt_length _)] at h
        exact ⟨_, _, h⟩
      go_wp2_with fail
      refine wp_region_noPanic ?_
      refine wp_region_held_drew (S := fun _ => True) (by kernel_rfl) trivial (fun hS0 => ?_)
      refine wpAnyH_take (i := 0) (v := ?_) rfl (by kernel_rfl) (by kernel_rfl) (by kernel_rfl) (fun _ _ _ h => h) (Or.inl ⟨by rfl, ?_⟩) hS0 ?_
      rotate_left
      · intro w hSw; go_simp; with_reducible rfl
      refine wpAnyH_take (i := 2) (v := ?_) rfl (by kernel_rfl) (by kernel_rfl) (by kernel_rfl) (fun _ _ _ h => h) (Or.inl ⟨by rfl, ?_⟩) hS0 ?_
      rotate_left
      · intro w hSw; go_simp; with_reducible rfl
      have hcall := (rtext_any wr.drew (w.heap.size + 2) g o2 c2' _ ts[k] (h24 _ (List.getElem_mem hlt)) (by rw [hts', List.take_left' (txt_length _)]) (by rw [hts', List.length_append, txt_length]; omega) ⟨hRr.1, hRr.2⟩ (by omega))
      have c2d : wr.drew.cell? ⟨w.heap.size, 2, none⟩ = some v := c2
      have hsz := HR.out.s
      have hpost : Hid (∀ w5, Upd wr.drew.heap.size [w.heap.size + 2] wr.drew w5 → w5.cell? ⟨w.heap.size, 2, none⟩ = some v) := fun w5 hU => (hU.cell (p := ⟨w.heap.size, 2, none⟩) (by show w.heap.size < _; rw [World.size_drew]; omega) (by simp)).trans c2
      refine wpAnyH_ready (rs := [1, 3]) (by kernel_rfl) (by simp) ?_
      refine AllReadyH.cons rfl (fun K hK => ?_) (AllReadyH.cons rfl (fun K hK => ?_) AllReadyH.nil)
      · go_simp
        refine hK.out _ _ trivial (fun _ => ?_)
        clear hK K
        refine wpAnyH_ready (rs := [3]) (by kernel_rfl) (by simp) ?_
        refine AllReadyH.cons rfl (fun K hK => ?_) AllReadyH.nil
        go_simp
        refine hcall.mono ?_
        rintro e w5 ⟨rfl, hR5, hU5⟩
        have c5 := hpost.out w5 hU5
        have c5' : ∀ o, (w5.alloc o).cell? ⟨w.heap.size, 2, none⟩ = some v := fun o => by rw [World.cell?_alloc_some _ _ _ (by simp [c5])]; exact c5
        refine hK.out _ _ trivial (fun _ => ?_)
        clear hK K
        refine wpAnyH_ready (rs := [4]) (by kernel_rfl) (by simp) ?_
        refine AllReadyH.cons rfl (fun K hK => ?_) AllReadyH.nil
        go_simp
        refine hK.out _ _ trivial (fun _ => ?_)
        clear hK K
        have hU6 : Upd wr.heap.size [w.heap.size + 2] wr w5 := Upd.undrew hU5
        have own5 : w5.ownsRow (w.heap.size + 3) 9 1 v k (strs (ts.take k)) := own_upd HO.out hU6 (by simp)
        have r5 := Lib.hid (hstep.out w5 hR5 hU6)
        have hs5 := r5.out.s
        clear hcall hpost hR5 hU5 c5' hRr
        refine wpAnyH_ready (rs := [5]) (by kernel_rfl) (by simp) ?_
        refine AllReadyH.cons rfl (fun K hK => ?_) AllReadyH.nil
        rw [if_pos (by simp [Region.wanted])]
        refine wp_append_own _ _ _ 22 rfl (w.heap.size + 3) 9 i0 _ 1 16 Tryd.underlying22 hi hz0 hz1 hz2 rfl (by decide) v k (strs (ts.take k)) rfl (own5.alloc _) ⟨w5.heap.size, 0, none⟩ 1 1 [.string ts[k]] rfl rfl (cell_one_new _ _ _) (by simp [Value.oneCell']) (by simp [maxLen]; omega) (by omega) (by simp; omega) (fun v' w6 hown6 hgrow6 _ => ?_)
        refine hK.out _ _ trivial (fun _ => ?_)
        clear hK K
        have r6 := r5.out.grown (fun g hg => (own5.lt g hg).1) hgrow6 hgB
        obtain ⟨g6, c6, rfl⟩ := own_succ hown6
        have d6 : w6.cell? ⟨w.heap.size, 2, none⟩ = some v := by rw [cell_of_heap r6.c]; rfl
        have f6 : w6.frozen? ⟨w.heap.size, 2, none⟩ = false := frozen_of_heap r6.c
        have r7 := Lib.hid (r6.setC 2 (.slice (some ⟨g6, 0, none⟩) (k + 1) c6) last mark _ rfl hgB)
        have own7 : Hid ((w6.setCell ⟨w.heap.size, 2, none⟩ (.slice (some ⟨g6, 0, none⟩) (k + 1) c6)).ownsRow (w.heap.size + 3) 9 1 (.slice (some ⟨g6, 0, none⟩) (k + 1) c6) (k + 1) (strs (ts.take (k + 1)))) := by
          have h1 := own_upd hown6 ((Upd.refl _ [w.heap.size] w6).setCell ⟨w.heap.size, 2, none⟩ (.inr (by simp)) (.slice (some ⟨g6, 0, none⟩) (k + 1) c6)) (by simp)
          have e : strs (ts.take (k + 1)) = strs (ts.take k) ++ [.string ts[k]] := by unfold strs; rw [List.take_succ_eq_append_getElem hlt, List.map_append]; rfl
          rw [e]
          exact h1
        clear hown6 hgrow6 own5 r6 r5
        refine wpAnyH_ready (rs := [6]) (by kernel_rfl) (by simp) ?_
        refine AllReadyH.cons rfl (fun K hK => ?_) AllReadyH.nil
        go_simp
        refine hK.out _ _ trivial (fun _ => ?_)
        clear hK K
        refine wpAnyH_ready (rs := [7]) (by kernel_rfl) (by simp) ?_
        refine AllReadyH.cons rfl (fun K hK => ?_) AllReadyH.nil
        go_simp
        refine hK.out _ _ trivial (fun _ => ?_)
        clear hK K
        refine wpAnyH_done (by kernel_rfl) ?_ _
        refine NoPanic.normal ?_
        go_wp2
        go_roundw
        case rel => exact ⟨k + 1, _, by omega, by go_num, r7, own7⟩
        case measure => simp [intOf]; omega
      · go_simp
        refine hcall.mono ?_
        rintro e w5 ⟨rfl, hR5, hU5⟩
        have c5 := hpost.out w5 hU5
        have c5' : ∀ o, (w5.alloc o).cell? ⟨w.heap.size, 2, none⟩ = some v := fun o => by rw [World.cell?_alloc_some _ _ _ (by simp [c5])]; exact c5
        refine hK.out _ _ trivial (fun _ => ?_)
        clear hK K
        refine wpAnyH_ready (rs := [1, 4]) (by kernel_rfl) (by simp) ?_
        refine AllReadyH.cons rfl (fun K hK => ?_) (AllReadyH.cons rfl (fun K hK => ?_) AllReadyH.nil)
        · go_simp
          refine hK.out _ _ trivial (fun _ => ?_)
          clear hK K
          refine wpAnyH_ready (rs := [4]) (by kernel_rfl) (by simp) ?_
          refine AllReadyH.cons rfl (fun K hK => ?_) AllReadyH.nil
          go_simp
          refine hK.out _ _ trivial (fun _ => ?_)
          clear hK K
          have hU6 : Upd wr.heap.size [w.heap.size + 2] wr w5 := Upd.undrew hU5
          have own5 : w5.ownsRow (w.heap.size + 3) 9 1 v k (strs (ts.take k)) := own_upd HO.out hU6 (by simp)
          have r5 := Lib.hid (hstep.out w5 hR5 hU6)
          have hs5 := r5.out.s
          clear hcall hpost hR5 hU5 c5' hRr
          refine wpAnyH_ready (rs := [5]) (by kernel_rfl) (by simp) ?_
          refine AllReadyH.cons rfl (fun K hK => ?_) AllReadyH.nil
          rw [if_pos (by simp [Region.wanted])]
          refine wp_append_own _ _ _ 22 rfl (w.heap.size + 3) 9 i0 _ 1 16 Tryd.underlying22 hi hz0 hz1 hz2 rfl (by decide) v k (strs (ts.take k)) rfl (own5.alloc _) ⟨w5.heap.size, 0, none⟩ 1 1 [.string ts[k]] rfl rfl (cell_one_new _ _ _) (by simp [Value.oneCell']) (by simp [maxLen]; omega) (by omega) (by simp; omega) (fun v' w6 hown6 hgrow6 _ => ?_)
          refine hK.out _ _ trivial (fun _ => ?_)
          clear hK K
          have r6 := r5.out.grown (fun g hg => (own5.lt g hg).1) hgrow6 hgB
          obtain ⟨g6, c6, rfl⟩ := own_succ hown6
          have d6 : w6.cell? ⟨w.heap.size, 2, none⟩ = some v := by rw [cell_of_heap r6.c]; rfl
          have f6 : w6.frozen? ⟨w.heap.size, 2, none⟩ = false := frozen_of_heap r6.c
          have r7 := Lib.hid (r6.setC 2 (.slice (some ⟨g6, 0, none⟩) (k + 1) c6) last mark _ rfl hgB)
          have own7 : Hid ((w6.setCell ⟨w.heap.size, 2, none⟩ (.slice (some ⟨g6, 0, none⟩) (k + 1) c6)).ownsRow (w.heap.size + 3) 9 1 (.slice (some ⟨g6, 0, none⟩) (k + 1) c6) (k + 1) (strs (ts.take (k + 1)))) := by
            have h1 := own_upd hown6 ((Upd.refl _ [w.heap.size] w6).setCell ⟨w.heap.size, 2, none⟩ (.inr (by simp)) (.slice (some ⟨g6, 0, none⟩) (k + 1) c6)) (by simp)
            have e : strs (ts.take (k + 1)) = strs (ts.take k) ++ [.string ts[k]] := by unfold strs; rw [List.take_succ_eq_append_getElem hlt, List.map_append]; rfl
            rw [e]
            exact h1
          clear hown6 hgrow6 own5 r6 r5
          refine wpAnyH_ready (rs := [6]) (by kernel_rfl) (by simp) ?_
          refine AllReadyH.cons rfl (fun K hK => ?_) AllReadyH.nil
          go_simp
          refine hK.out _ _ trivial (fun _ => ?_)
          clear hK K
          refine wpAnyH_ready (rs := [7]) (by kernel_rfl) (by simp) ?_
          refine AllReadyH.cons rfl (fun K hK => ?_) AllReadyH.nil
          go_simp
          refine hK.out _ _ trivial (fun _ => ?_)
          clear hK K
          refine wpAnyH_done (by kernel_rfl) ?_ _
          refine NoPanic.normal ?_
          go_wp2
          go_roundw
          case rel => exact ⟨k + 1, _, by omega, by go_num, r7, own7⟩
          case measure => simp [intOf]; omega
        · go_simp
          refine hK.out _ _ trivial (fun _ => ?_)
          clear hK K
          refine wpAnyH_ready (rs := [1]) (by kernel_rfl) (by simp) ?_
          refine AllReadyH.cons rfl (fun K hK => ?_) AllReadyH.nil
          go_simp
          refine hK.out _ _ trivial (fun _ => ?_)
          clear hK K
          have hU6 : Upd wr.heap.size [w.heap.size + 2] wr w5 := Upd.undrew hU5
          have own5 : w5.ownsRow (w.heap.size + 3) 9 1 v k (strs (ts.take k)) := own_upd HO.out hU6 (by simp)
          have r5 := Lib.hid (hstep.out w5 hR5 hU6)
          have hs5 := r5.out.s
          clear hcall hpost hR5 hU5 c5' hRr
          refine wpAnyH_ready (rs := [5]) (by kernel_rfl) (by simp) ?_
          refine AllReadyH.cons rfl (fun K hK => ?_) AllReadyH.nil
          rw [if_pos (by simp [Region.wanted])]
          refine wp_append_own _ _ _ 22 rfl (w.heap.size + 3) 9 i0 _ 1 16 Tryd.underlying22 hi hz0 hz1 hz2 rfl (by decide) v k (strs (ts.take k)) rfl (own5.alloc _) ⟨w5.heap.size, 0, none⟩ 1 1 [.string ts[k]] rfl rfl (cell_one_new _ _ _) (by simp [Value.oneCell']) (by simp [maxLen]; omega) (by omega) (by simp; omega) (fun v' w6 hown6 hgrow6 _ => ?_)
          refine hK.out _ _ trivial (fun _ => ?_)
          clear hK K
          have r6 := r5.out.grown (fun g hg => (own5.lt g hg).1) hgrow6 hgB
          obtain ⟨g6, c6, rfl⟩ := own_succ hown6
          have d6 : w6.cell? ⟨w.heap.size, 2, none⟩ = some v := by rw [cell_of_heap r6.c]; rfl
          have f6 : w6.frozen? ⟨w.heap.size, 2, none⟩ = false := frozen_of_heap r6.c
          have r7 := Lib.hid (r6.setC 2 (.slice (some ⟨g6, 0, none⟩) (k + 1) c6) last mark _ rfl hgB)
          have own7 : Hid ((w6.setCell ⟨w.heap.size, 2, none⟩ (.slice (some ⟨g6, 0, none⟩) (k + 1) c6)).ownsRow (w.heap.size + 3) 9 1 (.slice (some ⟨g6, 0, none⟩) (k + 1) c6) (k + 1) (strs (ts.take (k + 1)))) := by
            have h1 := own_upd hown6 ((Upd.refl _ [w.heap.size] w6).setCell ⟨w.heap.size, 2, none⟩ (.inr (by simp)) (.slice (some ⟨g6, 0, none⟩) (k + 1) c6)) (by simp)
            have e : strs (ts.take (k + 1)) = strs (ts.take k) ++ [.string ts[k]] := by unfold strs; rw [List.take_succ_eq_append_getElem hlt, List.map_append]; rfl
            rw [e]
            exact h1
          clear hown6 hgrow6 own5 r6 r5
          refine wpAnyH_ready (rs := [6]) (by kernel_rfl) (by simp) ?_
          refine AllReadyH.cons rfl (fun K hK => ?_) AllReadyH.nil
          go_simp
          refine hK.out _ _ trivial (fun _ => ?_)
          clear hK K
          refine wpAnyH_ready (rs := [7]) (by kernel_rfl) (by simp) ?_
          refine AllReadyH.cons rfl (fun K hK => ?_) AllReadyH.nil
          go_simp
          refine hK.out _ _ trivial (fun _ => ?_)
          clear hK K
          refine wpAnyH_done (by kernel_rfl) ?_ _
          refine NoPanic.normal ?_
          go_wp2
          go_roundw
          case rel => exact ⟨k + 1, _, by omega, by go_num, r7, own7⟩
          case measure => simp [intOf]; omega
    · have hk' : k = ts.length := by omega
      subst hk'
      obtain ⟨av, cv, rfl⟩ := own_form HO.out
      have q0 : wr.cell? ⟨w.heap.size, 0, none⟩ = some (.int .i64 last) := by rw [cell_of_heap HR.out.c]; rfl
      have q1 : wr.cell? ⟨w.heap.size, 1, none⟩ = some (.int .i64 mark) := by rw [cell_of_heap HR.out.c]; rfl
      have q2 : wr.cell? ⟨w.heap.size, 2, none⟩ = some (.slice av ts.length cv) := by rw [cell_of_heap HR.out.c]; rfl
      have q3 : wr.cell? ⟨w.heap.size + 1, 0, none⟩ = some (.bool false) := by rw [cell_of_heap HR.out.ok]; rfl
      have f2 : ∀ j, wr.frozen? ⟨w.heap.size, j, none⟩ = false := fun j => frozen_of_heap HR.out.c
      have f3 : wr.frozen? ⟨w.heap.size + 1, 0, none⟩ = false := frozen_of_heap HR.out.ok
      go_wp2_with fail
      have HF : Hid (∃ W, W = (((wr.setCell ⟨w.heap.size, 0, none⟩ (.int .i64 last)).setCell ⟨w.heap.size, 1, none⟩ (.int .i64 mark)).setCell ⟨w.heap.size, 2, none⟩ (.slice av ts.length cv)).setCell ⟨w.heap.size + 1, 0, none⟩ (.bool true) ∧
          W.heap[w.heap.size]? = some (.cells [.int .i64 last, .int .i64 mark, .slice av ts.length cv].toArray 91) ∧ W.heap[w.heap.size + 1]? = some (.cells [.bool true].toArray 4) ∧
          Below w.heap.size w W ∧ W.ownsRow w.heap.size 9 1 (.slice av ts.length cv) ts.length (strs ts)) := by
        have r1 := ((HR.out.setC 0 (.int .i64 last) last mark _ rfl hgB).setC 1 (.int .i64 mark) last mark _ rfl hgB).setC 2 (.slice av ts.length cv) last mark _ rfl hgB
        refine ⟨_, rfl, ?_, ?_, (Upd.setCell (S := []) (Upd.of_below r1.b _) _ (.inl (by simp)) _).below, ?_⟩
        · rw [Below.heap_setCell _ _ _ _ (by simp)]; exact r1.c
        · rw [setCell_heap 0 _ r1.ok]; rfl
        · refine ownsRow_base (base := w.heap.size + 3) ?_ (by omega)
          have h1 := HO.out
          rw [List.take_of_length_le (Nat.le_refl _)] at h1
          exact own_upd h1 (((((Upd.refl _ [w.heap.size, w.heap.size + 1] wr).setCell _ (.inr (by simp)) _).setCell _ (.inr (by simp)) _).setCell _ (.inr (by simp)) _).setCell _ (.inr (by simp)) _) (by simp)
      obtain ⟨W, hW, hWc, hWo, hWb, hWr⟩ := HF.out
      go_wp2_with fail
      rw [← hW]
      clear HF hW q0 q1 q2 q3 f2 f3 HR HO
      refine leaves_cons (f := 81) (args := #[.pointer (some ⟨w.heap.size, 0, none⟩), .pointer (some ⟨w.heap.size + 1, 0, none⟩)]) (by simp) (by simp [go_sem]) ?_
      refine (read1_idle _ _ W (by obtain ⟨t, x, h⟩ := hG; exact ⟨t, x, (hWb.cell (p := ⟨0, 0, none⟩) (by show 0 < _; omega)).trans h⟩)).mono ?_
      rintro e u' w'' ⟨rfl, rfl, rfl⟩
      have m0 : W.cell? ⟨w.heap.size, 0, none⟩ = some (.int .i64 last) := by rw [cell_of_heap hWc]; rfl
      have m1 : W.cell? ⟨w.heap.size, 1, none⟩ = some (.int .i64 mark) := by rw [cell_of_heap hWc]; rfl
      have m2 : W.cell? ⟨w.heap.size, 2, none⟩ = some (.slice av ts.length cv) := by rw [cell_of_heap hWc]; rfl
      have o1 : W.cell? ⟨w.heap.size + 1, 0, none⟩ = some (.bool true) := by rw [cell_of_heap hWo]; rfl
      refine ⟨.tuple #[.agg #[.int .i64 last, .int .i64 mark, .slice av ts.length cv], .bool true], ?_, _, rfl, hWr, hWb⟩
      simp [results, Tryd.results65, asAddr, go_sem, m0, m1, m2, o1]
end Go.Proofs.YtgjjcbcmjbnfnaaDoor
