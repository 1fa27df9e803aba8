/- What the disk holds behind write: the images of lists, in plain lists; no statement of the seat is proved here. -/
import Derived.Test.YtgjjcbcmjbnfnaaDoorSync
namespace Go.Proofs.YtgjjcbcmjbnfnaaDoor
open Go.RowKit

theorem pad_len {l : List UInt8} (h : l.length ≤ 128) : (pad l).length = 128 := by simp [pad]; omega
theorem partB_le (c : List UInt8) (k : Nat) : (partB c k).length ≤ 128 := by simp [partB]; omega

theorem putParts_all (c bs : List UInt8) (at0 : Nat) (hl : bs.length = 4096) : ∀ n, at0 + n ≤ 32 →
    (putParts c (bs, at0) (List.range n)).1.length = 4096 ∧ (∀ j, j < 32 → (j < at0 ∨ at0 + n ≤ j) → blk (putParts c (bs, at0) (List.range n)).1 j = blk bs j) ∧
    (∀ i, i < n → blk (putParts c (bs, at0) (List.range n)).1 (at0 + i) = pad (partB c i)) := by
  intro n
  induction n with
  | zero => intro _; exact ⟨hl, fun _ _ _ => rfl, fun i hi => by omega⟩
  | succ n ih =>
    intro hn
    obtain ⟨h1, h2, h3⟩ := ih (by omega)
    have hat := putParts_at c (List.range n) (bs, at0)
    rw [List.length_range] at hat
    rw [List.range_succ, putParts_snoc]
    simp only [putStep, hat]
    have hp := pad_len (partB_le c n)
    refine ⟨blkSet_length h1 (by omega) hp, ?_, ?_⟩
    · intro j hj hor
      rw [blk_blkSet_other h1 (by omega) hp (by omega)]
      exact h2 j hj (by omega)
    · intro i hi
      by_cases e : i = n
      · subst e; exact blk_blkSet_same h1 (by omega) hp
      · rw [blk_blkSet_other h1 (by omega) hp (by omega)]
        exact h3 i (by omega)

theorem pad_part (c : List UInt8) (k : Nat) (h : 128 * k < c.length) : pad (partB c k) = ((c ++ List.replicate 128 0).drop (128 * k)).take 128 := by
  rw [List.drop_append_of_le_length (by omega)]
  unfold pad partB
  by_cases h2 : 128 ≤ (c.drop (128 * k)).length
  · rw [List.take_append_of_le_length h2]
    have : ((c.drop (128 * k)).take 128).length = 128 := by simp; simp at h2; omega
    rw [this]; simp
  · have h3 : (c.drop (128 * k)).length ≤ 128 := by omega
    rw [List.take_of_length_le h3, List.take_append]
    rw [List.take_of_length_le h3, List.take_replicate]
    congr 2
    omega

theorem imgOf_parts (c bs : List UInt8) (no : Nat) (h : ∀ i, i < nParts c.length → blk bs (start1 no + i) = pad (partB c i)) (hc : c.length ≤ 1920) : ∀ k, k ≤ nParts c.length →
    (imgOf bs no).take (128 * k) = (c ++ List.replicate 128 0).take (128 * k) := by
  intro k
  induction k with
  | zero => intro _; simp
  | succ k ih =>
    intro hk
    have hlt : 128 * k < c.length := by unfold nParts at hk; omega
    rw [imgOf_snoc (by omega), ih (by omega), h k (by omega), pad_part c k hlt, show 128 * (k + 1) = 128 * k + 128 by omega, List.take_add]

theorem imgOf_blkSet (bs b : List UInt8) (no k : Nat) (hl : bs.length = 4096) (hb : b.length = 128) (hk : k < 2) : imgOf (blkSet bs k b) no = imgOf bs no := by
  have hs : 2 ≤ start1 no := by unfold start1; omega
  unfold imgOf
  congr 1
  apply List.ext_getElem?
  intro i
  rw [List.getElem?_drop, List.getElem?_drop, blkSet, List.append_assoc, List.getElem?_append_right (by simp [hl]; omega), List.getElem?_append_right (by simp [hl, hb]; omega), List.getElem?_drop]
  congr 1
  simp [hl, hb]; omega

/-- A block that holds a root. -/
structure RBlk (l : List UInt8) (x : Rt) : Prop where
  eq : l = pad (rbytes x.1 x.2.1 x.2.2)
  pos : 0 < x.1
  no : x.1 < 281474976710656
  size : x.2.1 ≤ 1920
  sum : x.2.2 < 281474976710656

theorem rnum_num6 (n : Nat) (h : n < 281474976710656) : rnum (num6 n) = n := rnum_num 6 n h

theorem RBlk.st {l : List UInt8} {x : Rt} (h : RBlk l x) : RootSt l (some x) := by
  have h28 : l.take 28 = rbytes x.1 x.2.1 x.2.2 := by
    rw [h.eq, pad, List.take_append_of_le_length (by rw [rbytes_length]; omega), List.take_of_length_le (by rw [rbytes_length]; omega)]
  have hd : ∀ a, a + 6 ≤ 28 → (l.drop a).take 6 = ((rbytes x.1 x.2.1 x.2.2).drop a).take 6 := by
    intro a ha
    rw [← h28, List.drop_take, List.take_take, Nat.min_eq_left (by omega)]
  have e : rbytes x.1 x.2.1 x.2.2 = magic ++ (num6 x.1 ++ (num6 x.2.1 ++ (num6 x.2.2 ++ num6 (sum48 (rhead x.1 x.2.1 x.2.2))))) := by simp [rbytes, rhead, List.append_assoc]
  have d4 : ((rbytes x.1 x.2.1 x.2.2).drop 4).take 6 = num6 x.1 := by
    rw [e]; rw [List.drop_append_of_le_length (by simp [magic]), List.drop_of_length_le (by simp [magic]), List.nil_append, List.take_append_of_le_length (by simp), List.take_of_length_le (by simp)]
  have d10 : ((rbytes x.1 x.2.1 x.2.2).drop 10).take 6 = num6 x.2.1 := by
    rw [e, ← List.append_assoc magic]; rw [List.drop_append_of_le_length (by simp [magic]), List.drop_of_length_le (by simp [magic]), List.nil_append, List.take_append_of_le_length (by simp), List.take_of_length_le (by simp)]
  have d16 : ((rbytes x.1 x.2.1 x.2.2).drop 16).take 6 = num6 x.2.2 := by
    rw [e, ← List.append_assoc magic, ← List.append_assoc (magic ++ num6 x.1)]; rw [List.drop_append_of_le_length (by simp [magic]), List.drop_of_length_le (by simp [magic]), List.nil_append, List.take_append_of_le_length (by simp), List.take_of_length_le (by simp)]
  refine ⟨?_, ?_, ?_, h.pos, h.size, h28.symm⟩
  · rw [rno, hd 4 (by omega), d4, rnum_num6 _ h.no]
  · rw [rsz, hd 10 (by omega), d10, rnum_num6 _ (by have := h.size; omega)]
  · rw [rsm, hd 16 (by omega), d16, rnum_num6 _ h.sum]

theorem zblk_st {l : List UInt8} (h : l = List.replicate 128 0) : RootSt l none := by
  intro j hj
  rw [h, List.getElem?_replicate]
  simp [hj]

/-- The disk's bytes hold a list: its newest root, and the contents of the root's image. -/
structure Img (bs : List UInt8) (m : Rt) (last mark : Nat) (ts : List ByteArray) : Prop where
  len : bs.length = 4096
  st : (m = (0, 0, 0) ∧ last = 0 ∧ mark = 0 ∧ ts = [] ∧ blk bs 0 = List.replicate 128 0 ∧ blk bs 1 = List.replicate 128 0) ∨
    (RBlk (blk bs (m.1 % 2)) m ∧ (blk bs ((m.1 + 1) % 2) = List.replicate 128 0 ∨ ∃ x : Rt, RBlk (blk bs ((m.1 + 1) % 2)) x ∧ x.1 < m.1) ∧
      m.2.1 = (cbytes last mark ts).length ∧ m.2.2 = sum48 (cbytes last mark ts) ∧ (imgOf bs m.1).take m.2.1 = cbytes last mark ts)

theorem bestK_hi {x y : Rt} (h : x.1 < y.1) : bestK [y] x = y := by simp [bestK, h]
theorem bestK_lo {x y : Rt} (h : x.1 < y.1) : bestK [x] y = y := by simp [bestK]; omega

theorem Img.newest {s : Dk} {m : Rt} {last mark : Nat} {ts : List ByteArray} (h : Img s.bs m last mark ts) :
    ∃ rs : Nat → Option Rt, (∀ k, k < 2 → RootSt (blk s.bs k) (rs k)) ∧ Newest s rs m last mark ts := by
  rcases h.st with ⟨h1, h2, h3, h4, h5, h6⟩ | ⟨h1, h2, h3, h4, h5⟩
  · refine ⟨fun _ => none, ?_, .inl ⟨rfl, h1, h2, h3, h4⟩⟩
    intro k hk
    have : k = 0 ∨ k = 1 := by omega
    rcases this with rfl | rfl
    · exact zblk_st h5
    · exact zblk_st h6
  · rcases Nat.mod_two_eq_zero_or_one m.1 with hm | hm
    · have hm' : (m.1 + 1) % 2 = 1 := by omega
      rw [hm] at h1
      rw [hm'] at h2
      rcases h2 with h2 | ⟨x, h2, hx⟩
      · refine ⟨fun k => if k = 0 then some m else none, ?_, .inr ⟨m, [], rfl, rfl, h3, h4, h5⟩⟩
        intro k hk
        have : k = 0 ∨ k = 1 := by omega
        rcases this with rfl | rfl
        · exact h1.st
        · exact zblk_st h2
      · refine ⟨fun k => if k = 0 then some m else some x, ?_, .inr ⟨m, [x], rfl, (bestK_lo hx).symm, h3, h4, h5⟩⟩
        intro k hk
        have : k = 0 ∨ k = 1 := by omega
        rcases this with rfl | rfl
        · exact h1.st
        · exact h2.st
    · have hm' : (m.1 + 1) % 2 = 0 := by omega
      rw [hm] at h1
      rw [hm'] at h2
      rcases h2 with h2 | ⟨x, h2, hx⟩
      · refine ⟨fun k => if k = 0 then none else some m, ?_, .inr ⟨m, [], rfl, rfl, h3, h4, h5⟩⟩
        intro k hk
        have : k = 0 ∨ k = 1 := by omega
        rcases this with rfl | rfl
        · exact zblk_st h2
        · exact h1.st
      · refine ⟨fun k => if k = 0 then some x else some m, ?_, .inr ⟨x, [m], rfl, (bestK_hi hx).symm, h3, h4, h5⟩⟩
        intro k hk
        have : k = 0 ∨ k = 1 := by omega
        rcases this with rfl | rfl
        · exact h2.st
        · exact h1.st

theorem cbytes_le {last mark : Nat} {ts : List ByteArray} (hts : ts.length ≤ 40) (h24 : ∀ t ∈ ts, t.size ≤ 24) : (cbytes last mark ts).length ≤ 1018 := by
  have h1 := txts_le ts h24
  simp [cbytes]; omega

theorem Img.wrote {bs : List UInt8} {m : Rt} {last mark : Nat} {ts : List ByteArray} (h : Img bs m last mark ts) (hm : m.1 < 140737488355328) (last' mark' : Nat) (ts' : List ByteArray) (hts : ts'.length ≤ 40) (h24 : ∀ t ∈ ts', t.size ≤ 24) :
    Img (wroteBs bs (m.1 + 1) (cbytes last' mark' ts')) (m.1 + 1, (cbytes last' mark' ts').length, sum48 (cbytes last' mark' ts')) last' mark' ts' := by
  obtain ⟨c, hc⟩ : ∃ c, c = cbytes last' mark' ts' := ⟨_, rfl⟩
  have hcl : c.length ≤ 1018 := by rw [hc]; exact cbytes_le hts h24
  rw [← hc]
  have hs1 : 2 ≤ start1 (m.1 + 1) ∧ start1 (m.1 + 1) ≤ 17 := by unfold start1; omega
  have hnp : nParts c.length ≤ 8 := by unfold nParts; omega
  obtain ⟨p1, p2, p3⟩ := putParts_all c bs (start1 (m.1 + 1)) h.len (nParts c.length) (by omega)
  obtain ⟨bs1, hbs1⟩ : ∃ bs1, bs1 = (putParts c (bs, start1 (m.1 + 1)) (List.range (nParts c.length))).1 := ⟨_, rfl⟩
  rw [← hbs1] at p1 p2 p3
  have hrl : (pad (rbytes (m.1 + 1) c.length (sum48 c))).length = 128 := pad_len (by rw [rbytes_length]; omega)
  have hk : (m.1 + 1) % 2 < 2 := Nat.mod_lt _ (by omega)
  have hw : wroteBs bs (m.1 + 1) c = blkSet bs1 ((m.1 + 1) % 2) (pad (rbytes (m.1 + 1) c.length (sum48 c))) := by rw [wroteBs, hbs1]
  rw [hw]
  refine ⟨blkSet_length p1 (by omega) hrl, .inr ⟨?_, ?_, by rw [hc], by rw [hc], ?_⟩⟩
  · rw [blk_blkSet_same p1 (by omega) hrl]
    exact ⟨rfl, by simp, by show m.1 + 1 < _; omega, by show c.length ≤ _; omega, sum48_lt c⟩
  · have hne : (m.1 + 1 + 1) % 2 ≠ (m.1 + 1) % 2 := by omega
    have he : (m.1 + 1 + 1) % 2 = m.1 % 2 := by omega
    show blk (blkSet bs1 ((m.1 + 1) % 2) _) ((m.1 + 1 + 1) % 2) = _ ∨ _
    rw [blk_blkSet_other p1 (by omega) hrl hne, he, p2 (m.1 % 2) (by omega) (by omega)]
    rcases h.st with ⟨h1, _, _, _, h5, h6⟩ | ⟨h1, _⟩
    · left; rw [h1]; exact h5
    · right; exact ⟨m, h1, by show m.1 < m.1 + 1; omega⟩
  · rw [← hc]
    show (imgOf (blkSet bs1 _ _) (m.1 + 1)).take c.length = c
    rw [imgOf_blkSet bs1 _ _ _ p1 hrl hk]
    have h128 : c.length ≤ 128 * nParts c.length := by unfold nParts; omega
    have h1 := imgOf_parts c bs1 (m.1 + 1) p3 (by omega) (nParts c.length) (Nat.le_refl _)
    have h2 := congrArg (List.take c.length) h1
    rw [List.take_take, List.take_take, Nat.min_eq_left h128, List.take_append_of_le_length (Nat.le_refl _), List.take_of_length_le (Nat.le_refl _)] at h2
    exact h2

theorem Img.new : Img zs (0, 0, 0) 0 0 [] := by
  refine ⟨zs_length, .inl ⟨rfl, rfl, rfl, rfl, ?_, ?_⟩⟩
  · unfold blk zs; rw [List.drop_replicate, List.take_replicate]; congr 1
  · unfold blk zs; rw [List.drop_replicate, List.take_replicate]; congr 1
end Go.Proofs.YtgjjcbcmjbnfnaaDoor
