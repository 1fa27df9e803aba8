/- The sorted keys of the disk's map; no statement of the seat is proved here. -/
import Derived.Test.YtgjjcbcmjbnfnaaDoorLay
import Derived.Test.YtgjjcbcmjbnfnaaDoorDk
namespace Go.Proofs.YtgjjcbcmjbnfnaaDoor
open Go.RowKit Go.Maps Go.Sort Go.Shelf

theorem Tryd.sortsA (m : Nat) : AnyZI.SortsIn Tryd.prog Tryd.sortedA_ren Fence.wide m :=
  ⟨fun blk off cap ss W hH hblk hsz => callsIn_wide.2 (AnyM.slices_Sort_int Tryd.sortA blk off cap ss W hH hblk hsz),
   fun p cap W => callsIn_wide.2 (AnyM.slices_Sort_int_none Tryd.sortA p cap W)⟩

/-- How a block reads: not at all. -/
def noRead : Value → Option (DataW Unit × List MemPlace) := fun _ => some (.nil, [])

theorem keyOf3 (k : Nat) (h : k < 32) : keyOf Tryd.prog 3 (.int .i64 (k : Int)) = some (.int .i64 (k : Int)) := by
  have hw : (Lit.int .i64 (k : Int)).wf = true := by simp [Lit.wf, IntKind.min, IntKind.max, IntKind.signed, IntKind.bits]; omega
  simp [keyOf, Tryd.underlying3, mapKey, hw]

theorem nodup_lt : ∀ (n : Nat) (l : List Nat), l.Nodup → (∀ x ∈ l, x < n) → l.length ≤ n
  | 0, [], _, _ => Nat.le_refl _
  | 0, x :: _, _, h => absurd (h x (by simp)) (by omega)
  | n + 1, l, hn, h => by
    have h1 := nodup_lt n (l.erase n) (hn.erase n) (fun x hx => by
      have := (hn.mem_erase_iff).1 hx
      have := h x this.2
      omega)
    have h2 := List.length_erase (a := n) (l := l)
    split at h2 <;> omega

theorem IsMap.small {w : World} {m : Nat} {sy : List (Nat × List UInt8)} (h : IsMap w m sy) : sy.length ≤ 32 := by
  have := nodup_lt 32 _ h.nodup (fun x hx => by
    obtain ⟨p, hp, rfl⟩ := List.mem_map.1 hx
    exact (h.len p hp).2)
  simpa using this

theorem IsMap.owns {w : World} {m : Nat} {sy : List (Nat × List UInt8)} (h : IsMap w m sy) :
    ∃ D0 : DataW Unit, w.ownsMap Tryd.prog 3 noRead m sy.length D0 ∧ (intKeys D0).Perm (sy.map fun p => (p.1 : Int)) ∧ Maps.size D0 = sy.length := by
  obtain ⟨es, clk, h1, h2, h3, h4⟩ := h.ex
  have hlen : es.toList.length = sy.length := by have := congrArg List.length h2; simpa using this
  have hkeys : es.toList.map (·.key) = sy.map fun p => Value.int .i64 (p.1 : Int) := by
    have := congrArg (List.map Prod.fst) h2
    simpa [entKV, syKV, Function.comp_def] using this
  have hmem : ∀ x ∈ es.toList, ∃ k : Nat, k < 32 ∧ x.key = .int .i64 (k : Int) := by
    intro x hx
    have : x.key ∈ sy.map fun p => Value.int .i64 (p.1 : Int) := by rw [← hkeys]; exact List.mem_map_of_mem hx
    obtain ⟨p, hp, he⟩ := List.mem_map.1 this
    exact ⟨p.1, (h.len p hp).2, he.symm⟩
  have hrd : ∀ x ∈ es.toList, ∀ k : Nat, k < 32 → x.key = .int .i64 (k : Int) → WideElems.rd Tryd.prog 3 noRead x = some (.int .i64 (k : Int), .nil) := by
    intro x _ k hk he
    simp [WideElems.rd, he, keyOf3 k hk, noRead]
  have hrg : es.toList.map (fun x => (WideElems.rg Tryd.prog 3 noRead x).1) = sy.map fun p => Lit.int .i64 (p.1 : Int) := by
    have e1 : ∀ x ∈ es.toList, (fun x => (WideElems.rg Tryd.prog 3 noRead x).1) x = (fun x : MapEntry => match x.key with | .int _ n => Lit.int .i64 n | _ => .bool false) x := by
      intro x hx
      obtain ⟨k, hk, he⟩ := hmem x hx
      show (WideElems.rg Tryd.prog 3 noRead x).1 = (match x.key with | .int _ n => Lit.int .i64 n | _ => .bool false)
      rw [WideElems.rg_of (hrd x hx k hk he), he]
    rw [List.map_congr_left e1]
    have := congrArg (List.map (fun v : Value => match v with | .int _ n => Lit.int .i64 n | _ => .bool false)) hkeys
    simpa [Function.comp_def] using this
  refine ⟨_, ⟨es, clk, h1, ⟨?_, ⟨h4, h3, ?_⟩, ?_⟩, by rw [← hlen]; simp, rfl⟩, ?_, ?_⟩
  · have := h.small
    simp [maxLen] at hlen ⊢; omega
  · rw [hkeys]
    refine List.pairwise_map.2 ((List.pairwise_map.1 h.nodup).imp (fun hne e => hne (by have := e; simp at this; omega)))
  · intro x hx
    obtain ⟨k, hk, he⟩ := hmem x hx
    exact ⟨_, hrd x hx k hk he⟩
  · have hp := (WideShapes.sorted_perm (es.toList.map (WideElems.rg Tryd.prog 3 noRead))).map (fun p => Go.intOf p.1)
    have e2 : (es.toList.map (WideElems.rg Tryd.prog 3 noRead)).map (fun p => Go.intOf p.1) = sy.map fun p => (p.1 : Int) := by
      have := congrArg (List.map Go.intOf) hrg
      simpa [Function.comp_def, Go.intOf] using this
    rw [e2] at hp
    exact hp
  · have hp := (WideShapes.sorted_perm (es.toList.map (WideElems.rg Tryd.prog 3 noRead))).length_eq
    show (List.foldr DataW.insert [] (es.toList.map (WideElems.rg Tryd.prog 3 noRead))).length = _
    rw [hp]; simpa using hlen

theorem keys51 (m : Nat) (w : World) : Calls Tryd.prog 51 #[.map (some m)] w fun e w' => e = .returned (.func (.func 72) #[] #[.pointer (some ⟨w.heap.size, 0, none⟩)]) ∧ w.alloc (.cells #[.map (some m)] 47) = w' :=
  (callsIn_wide (n := 6)).1 ((AnyZI.keys_in Tryd.keysA Fence.wide 6 trivial rfl (some m) w).mono fun _ _ ⟨h1, h2⟩ => ⟨h1, h2.symm⟩)

/-- The sorted keys. -/
theorem sorted50 (m : Nat) (sy : List (Nat × List UInt8)) (w : World) (h : IsMap w m sy) :
    Calls Tryd.prog 50 #[.func (.func 72) #[] #[.pointer (some ⟨w.heap.size, 0, none⟩)]] (w.alloc (.cells #[.map (some m)] 47)) fun e w' => ∃ (v : Value) (ks : List Int), e = .returned v ∧
      ks.Perm (sy.map fun p => (p.1 : Int)) ∧ ks.Pairwise (fun a b => a ≤ b) ∧ w'.ownsRow (w.heap.size + 1) 3 1 v ks.length (ks.map (Value.int .i64)) ∧ (v = .slice none 0 0 ↔ ks = []) ∧ Below (w.heap.size + 1) (w.alloc (.cells #[.map (some m)] 47)) w' := by
  obtain ⟨D0, hown, hperm, hsize⟩ := h.owns
  have hsm := h.small
  refine (callsIn_wide (n := 6)).1 ?_
  have hbl := h.lt
  have hseq : SeqGives Fence.wide 3 Tryd.prog 72 #[.pointer (some ⟨w.heap.size, 0, none⟩)] encZ (fun ss => ss.Perm (intKeys D0)) (Maps.size D0) (w.alloc (.cells #[.map (some m)] 47)) :=
    AnyZI.keys_gives (ρ := Tryd.keysA_ren) { Tryd.keysA with } Fence.wide _ trivial rfl (by omega) w.heap.size m _ D0 _ (by simp) (by simp) (by
      obtain ⟨es, clock, hb, Ft, hs, hD⟩ := hown
      exact ⟨es, clock, (Below.heap_alloc _ _ m hbl).trans hb, Ft, hs, hD⟩)
  have cS := AnyZI.sorted_in Tryd.sortedA Fence.wide 6 trivial trivial trivial trivial rfl (by omega) (Tryd.sortsA _) (enters_of Tryd.func71 (by kernel_rfl) rfl) 72 #[.pointer (some ⟨w.heap.size, 0, none⟩)] trivial (enters_of Tryd.func72 (by kernel_rfl) rfl) _ _ (by rw [hsize]; simp [maxLen]; omega) (by rw [hsize]; omega) _ hseq
  change CallsIn _ _ Tryd.prog 50 _ _ _ at cS
  refine cS.mono ?_
  rintro e w' ⟨v, ss, rfl, hS, hrow, hnil, hb⟩
  have hlen : (ss.mergeSort (fun x y => decide (x ≤ y))).length = ss.length := List.length_mergeSort _
  have tr : ∀ a b c : Int, decide (a ≤ b) = true → decide (b ≤ c) = true → decide (a ≤ c) = true := fun a b c h1 h2 => by simp only [decide_eq_true_eq] at *; omega
  have to : ∀ a b : Int, (decide (a ≤ b) || decide (b ≤ a)) = true := fun a b => by simp only [Bool.or_eq_true, decide_eq_true_eq]; omega
  refine ⟨v, ss.mergeSort (fun x y => decide (x ≤ y)), rfl, ((List.mergeSort_perm ss _).trans hS).trans hperm, ?_, ?_, ?_, ?_⟩
  · exact (List.pairwise_mergeSort tr to ss).imp (fun h => by simpa using h)
  · rw [hlen]
    have e1 : (w.alloc (.cells #[.map (some m)] 47)).heap.size = w.heap.size + 1 := by simp
    rw [e1] at hrow
    exact hrow
  · rw [hnil]
    constructor
    · rintro rfl; exact List.length_eq_zero_iff.1 (by rw [hlen]; rfl)
    · intro e
      have := congrArg List.length e
      rw [hlen] at this
      exact List.length_eq_zero_iff.1 this
  · simpa using hb
end Go.Proofs.YtgjjcbcmjbnfnaaDoor
