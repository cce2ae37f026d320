import Derived.Test.YtenjdidjjggefaaGreatCliA
namespace Go.Proofs.YtenjdidjjggefaaGreat
open Go.RowKit Go.Shelf Go.Sort Go.Maps

theorem own_tight {w : World} {b n : Nat} {D : DV} (h : w.ownsMap Tryz.prog 30 RV b n D) : w.ownsMap Tryz.prog 30 RV b (Maps.size D) D := by
  obtain ⟨es, clock, hh, F, hs, rfl⟩ := h
  have e1 : Maps.size (DataW.map ((es.toList.map (Go.WideElems.rg Tryz.prog 30 RV)).foldr DataW.insert [])) = es.size := by simp [Maps.size, length_sorted]
  exact ⟨es, clock, hh, F, by rw [e1]; exact Nat.le_refl _, rfl⟩

/-- a row put into its place -/
def insT (c num : Nat) (l : List UInt8) : List RowT → List RowT
  | [] => [(c, num, l)]
  | x :: L => if x.1 < c then x :: insT c num l L else if x.1 = c then (c, num, l) :: L else (c, num, l) :: x :: L

theorem getT_cons (x : RowT) (L : List RowT) (c : Nat) : getT (x :: L) c = if x.1 = c then some x.2 else getT L c := by
  by_cases h : x.1 = c
  · simp [getT, h]
  · rw [if_neg h]
    simp [getT, h]
theorem getT_ins_same (c num : Nat) (l : List UInt8) : ∀ L : List RowT, getT (insT c num l L) c = some (num, l)
  | [] => by simp [insT, getT_cons]
  | x :: L => by
    rw [insT]
    split
    · rw [getT_cons, if_neg (by omega)]
      exact getT_ins_same c num l L
    · split <;> simp [getT_cons]
theorem getT_ins_other {c c' : Nat} (h : c' ≠ c) (num : Nat) (l : List UInt8) : ∀ L : List RowT, getT (insT c num l L) c' = getT L c'
  | [] => by rw [insT, getT_cons, if_neg (fun e => h e.symm)]
  | x :: L => by
    rw [insT]
    split
    · rw [getT_cons, getT_cons, getT_ins_other h num l L]
    · split
      · rename_i h1 h2
        rw [getT_cons, getT_cons, if_neg (fun e => h e.symm), if_neg (by omega)]
      · rw [getT_cons, if_neg (fun e => h e.symm)]

/-- rising clients -/
def Srt (L : List RowT) : Prop := L.Pairwise fun x y => x.1 < y.1
theorem getT_far {c : Nat} : ∀ {L : List RowT}, (∀ x ∈ L, c < x.1) → getT L c = none
  | [], _ => rfl
  | x :: L, h => by
    rw [getT_cons, if_neg (by have := h x (by simp); omega)]
    exact getT_far fun y hy => h y (by simp [hy])
theorem ins_mem {c num : Nat} {l : List UInt8} : ∀ {L : List RowT} {y : RowT}, y ∈ insT c num l L → y.1 = c ∨ y ∈ L
  | [], y, h => by simp [insT] at h; exact .inl (by rw [h])
  | x :: L, y, h => by
    rw [insT] at h
    split at h
    · rcases List.mem_cons.1 h with h | h
      · exact .inr (by simp [h])
      · rcases ins_mem h with h | h
        · exact .inl h
        · exact .inr (by simp [h])
    · split at h
      · rcases List.mem_cons.1 h with h | h
        · exact .inl (by rw [h])
        · exact .inr (by simp [h])
      · rcases List.mem_cons.1 h with h | h
        · exact .inl (by rw [h])
        · exact .inr h
theorem ins_srt (c num : Nat) (l : List UInt8) : ∀ {L : List RowT}, Srt L → Srt (insT c num l L)
  | [], _ => by simp [insT, Srt]
  | x :: L, h => by
    have h' := List.pairwise_cons.1 h
    rw [insT]
    split
    · refine List.pairwise_cons.2 ⟨fun y hy => ?_, ins_srt c num l h'.2⟩
      rcases ins_mem hy with h1 | h1
      · omega
      · exact h'.1 y h1
    · split
      · rename_i h1 h2
        refine List.pairwise_cons.2 ⟨fun y hy => ?_, h'.2⟩
        have := h'.1 y hy
        simp only; omega
      · rename_i h1 h2
        refine List.pairwise_cons.2 ⟨fun y hy => ?_, h⟩
        rcases List.mem_cons.1 hy with h3 | h3
        · subst h3; simp only; omega
        · have := h'.1 y h3
          simp only; omega
theorem ins_length (c num : Nat) (l : List UInt8) : ∀ {L : List RowT}, Srt L → (insT c num l L).length = if (getT L c).isSome then L.length else L.length + 1
  | [], _ => by simp [insT, getT]
  | x :: L, h => by
    have h' := List.pairwise_cons.1 h
    rw [insT]
    split
    · have e : getT (x :: L) c = getT L c := by rw [getT_cons, if_neg (by omega)]
      rw [List.length_cons, ins_length c num l h'.2, e]
      split <;> simp
    · split
      · rename_i h1 h2
        rw [getT_cons, if_pos h2]; simp
      · rename_i h1 h2
        have e : getT (x :: L) c = none := by rw [getT_cons, if_neg h2, getT_far (fun y hy => by have := h'.1 y hy; omega)]
        rw [e]
        simp

/-- Put's answer, and the rows behind it -/
def putT (L : List RowT) (c num : Nat) (r : ResD) : Int × List RowT :=
  if mayResD r = false then (2, L) else match getT L c with
    | some (old, _) => if num ≤ old then (14, L) else (0, insT c num (resZ r).2 L)
    | none => if 16 ≤ L.length then (10, L) else (0, insT c num (resZ r).2 L)

theorem Tbl.put {w w' : World} {g b n : Nat} {F : Nat → Prop} {L : List RowT} (h : Tbl w g b F L) (hs : Srt L) {c num : Nat} {l : List UInt8} (hc : c < 18446744073709551616) (hnum : num < 18446744073709551616)
    {A : Option Addr} {m k : Nat} (hcnt : (getT L c).isSome = true ∨ L.length < 16) {D : DV} (ho : w.ownsMap Tryz.prog 30 RV b n D) (ho' : w'.ownsMap Tryz.prog 30 RV b (n + 1) (D.put (keyL c) (.held (told num A m k))))
    (hg : w.grownBy w' (some b)) (hr : Rd w' F A m 1 (bV l)) (hmk : m ≤ k) (hm : m ≤ 1099511627776) : Tbl w' g b F (insT c num l L) := by
  obtain ⟨h1, h2, h3, h4, n', D', h5, h6, h7, h8, h9⟩ := h
  have hDD : D = D' := by
    obtain ⟨es, cl, e1, _, _, e2⟩ := ho
    obtain ⟨es', cl', e1', _, _, e2'⟩ := h5
    rw [e1] at e1'
    injection e1' with e1'
    injection e1' with e3 _
    rw [e2, e2', e3]
  subst hDD
  have hk : WideAt.IsKeyLit (keyL c) := keyed.key (key_of hc)
  refine ⟨h1.grown hg (by simpa using h4), h2, h3, h4, n + 1, _, ho', ?_, ?_, h8.put hk _, fun c' hc' => ?_⟩
  · rw [ins_length c num l hs]
    split
    · exact h6
    · rcases hcnt with hcnt | hcnt
      · contradiction
      · omega
  · rw [size_put h8, ins_length c num l hs, h7]
    have := h9 c hc
    cases hgt : getT L c with
    | none => rw [hgt] at this; simp [this]
    | some x =>
      obtain ⟨a, d⟩ := x
      rw [hgt] at this
      obtain ⟨_, A2, m2, k2, q, _⟩ := this
      rw [has_true_of_atKey q]; simp
  · by_cases hcc : c' = c
    · subst hcc
      rw [getT_ins_same]
      exact ⟨hnum, A, m, k, fun z => atKey_put_same h8.isMap hk _ z, hr, hmk, hm⟩
    · rw [getT_ins_other hcc]
      have := h9 c' hc'
      split at this
      · rw [has_put_other (key_ne hcc)]; exact this
      · obtain ⟨q1, A, m, k, q2, q3, q4⟩ := this
        refine ⟨q1, A, m, k, fun z => by rw [atKey_put_other (key_ne hcc)]; exact q2 z, q3.grown hg (fun k _ hk e => ?_), q4⟩
        injection e with e
        exact h3 (e ▸ hk)

end Go.Proofs.YtenjdidjjggefaaGreat
