import Derived.Test.YtenjdidjjggefaaGreatCliF
namespace Go.Proofs.YtenjdidjjggefaaGreat
open Go.RowKit Go.Shelf Go.Sort Go.Maps

theorem grown_of_below {w w' : World} (h : Below w.heap.size w w') : w.grownBy w' none := ⟨h.os, h.tape, h.output, h.size, fun k hk _ => h.block k hk⟩
theorem below_of_grown {w w' : World} (h : w.grownBy w' none) : Below w.heap.size w w' := ⟨h.os, h.tape, h.output, h.size, fun k hk => h.block k hk (by simp)⟩

theorem getT_mem {L : List RowT} {c : Nat} {v : Nat × List UInt8} (h : getT L c = some v) : (c, v) ∈ L := by
  rw [getT, Option.map_eq_some_iff] at h
  obtain ⟨x, hx, rfl⟩ := h
  have h1 := List.mem_of_find?_eq_some hx
  have h2 := List.find?_some hx
  simp only [beq_iff_eq] at h2
  rw [← h2]
  exact h1
theorem mem_getT {c : Nat} {v : Nat × List UInt8} : ∀ {L : List RowT}, Srt L → (c, v) ∈ L → getT L c = some v
  | [], _, h => by simp at h
  | x :: L, hs, h => by
    have hs' := List.pairwise_cons.1 hs
    rw [getT_cons]
    rcases List.mem_cons.1 h with h | h
    · subst h; simp
    · rw [if_neg (by have := hs'.1 _ h; simp only at this; omega)]
      exact mem_getT hs'.2 h

theorem sub_cons {x y : RowT} {A B : List RowT} (hA : Srt (x :: A)) (hB : Srt (y :: B)) (h : ∀ z ∈ x :: A, z ∈ y :: B) : (x = y ∧ ∀ z ∈ A, z ∈ B) ∨ (∀ z ∈ x :: A, z ∈ B) := by
  have hA' := List.pairwise_cons.1 hA
  have hB' := List.pairwise_cons.1 hB
  rcases List.mem_cons.1 (h x (by simp)) with e | e
  · refine .inl ⟨e, fun z hz => ?_⟩
    rcases List.mem_cons.1 (h z (by simp [hz])) with e' | e'
    · have := hA'.1 z hz
      rw [e', e] at this
      omega
    · exact e'
  · refine .inr fun z hz => ?_
    rcases List.mem_cons.1 (h z hz) with e' | e'
    · have h1 := hB'.1 x e
      rcases List.mem_cons.1 hz with h2 | h2
      · rw [h2]; exact e
      · have := hA'.1 z h2
        rw [e'] at this
        omega
    · exact e'
theorem sub_len : ∀ {B A : List RowT}, Srt A → Srt B → (∀ z ∈ A, z ∈ B) → A.length ≤ B.length
  | [], [], _, _, _ => by simp
  | [], x :: A, _, _, h => by have := h x (by simp); simp at this
  | y :: B, [], _, _, _ => by simp
  | y :: B, x :: A, hA, hB, h => by
    have hA' := List.pairwise_cons.1 hA
    have hB' := List.pairwise_cons.1 hB
    rcases sub_cons hA hB h with ⟨_, h1⟩ | h1
    · have := sub_len hA'.2 hB'.2 h1
      simp; omega
    · have := sub_len hA hB'.2 h1
      simp only [List.length_cons] at this ⊢; omega
/-- two rising lists of as many rows, the one's in the other: the same -/
theorem rows_eq : ∀ {L2 L1 : List RowT}, Srt L1 → Srt L2 → L1.length = L2.length → (∀ x ∈ L1, x ∈ L2) → L1 = L2
  | [], [], _, _, _, _ => rfl
  | [], x :: L1, _, _, hl, _ => by simp at hl
  | y :: L2, [], _, _, hl, _ => by simp at hl
  | y :: L2, x :: L1, h1, h2, hl, hm => by
    have h1' := List.pairwise_cons.1 h1
    have h2' := List.pairwise_cons.1 h2
    rcases sub_cons h1 h2 hm with ⟨e, h⟩ | h
    · rw [e, rows_eq h1'.2 h2'.2 (by simpa using hl) h]
    · have := sub_len h1 h2'.2 h
      simp only [List.length_cons] at this hl; omega

/-- what a range over a table's rows has held against the other's -/
def Held (L1 L2 : List RowT) (left : Lit → Bool) : Prop := ∀ c, c < 18446744073709551616 → ∀ v, getT L1 c = some v → left (keyL c) = false → getT L2 c = some v

theorem held_all {L1 L2 : List RowT} {left : Lit → Bool} (h : Held L1 L2 left) (hl : ∀ k, left k = false) (h1 : Srt L1) (h2 : Srt L2) (hn : L1.length = L2.length) (hb : ∀ x ∈ L1, x.1 < 18446744073709551616) : L1 = L2 := by
  refine rows_eq h1 h2 hn fun x hx => ?_
  exact getT_mem (h x.1 (hb x hx) x.2 (mem_getT h1 hx) (hl _))

theorem held_step {L1 L2 : List RowT} {left : Lit → Bool} (h : Held L1 L2 left) {c : Nat} (hc : getT L1 c = getT L2 c) : Held L1 L2 (fun z => left z && !z.sameKey (keyL c)) := by
  intro d hd v hv hl
  by_cases hdc : d = c
  · subst hdc; rw [← hc]; exact hv
  · refine h d hd v hv ?_
    dsimp only at hl
    rw [Maps.sameKey_ne (key_ne hdc)] at hl
    simpa using hl

end Go.Proofs.YtenjdidjjggefaaGreat
