import Derived.Test.YtenjdidjjggefaaGreatEntP
namespace Go.Proofs.YtenjdidjjggefaaGreat
open Go.RowKit Go.Shelf Go.Sort

theorem wr_new (w : World) : Wr (w.alloc (.cells #[Value.slice none 0 0, Value.int .i64 0] 125)) w.heap.size (fun k => w.heap.size ≤ k ∧ k < w.heap.size + 1) 0 [] :=
  ⟨_, Blk.new _ _ _, World.ownsRow_nil _ _ _ _, by omega, by simp [Value.ownBlock]⟩

/-- a writer behind an entry -/
def entZ (e : EntryD) : Int × List UInt8 := attrsZ (putZ (0, []) 1 e.1.data.toList) 2 e.2

theorem all_mem {l : List AttrD} {a : AttrD} (h : mayAttrsD l = true) (ha : a ∈ l) : mayAttrD a = true := by
  rw [mayAttrsD, Bool.and_eq_true, List.all_eq_true] at h
  obtain ⟨i, hi, rfl⟩ := List.getElem_of_mem ha
  have := h.1 i (by simpa using hi)
  have e : l.getD i default = l[i] := by simp [List.getD, hi]
  rw [badAt, e] at this
  cases hm : mayAttrD l[i]
  · rw [hm] at this; simp at this
  · rfl
theorem mayAttr_size {a : AttrD} (h : mayAttrD a = true) : a.1.size ≤ 1000 ∧ a.2.size ≤ 1000 := by
  rw [mayAttrD, Bool.and_eq_true] at h
  obtain ⟨h1, h2⟩ := h
  rw [mayTypeL, Bool.and_eq_true, Bool.and_eq_true, Bool.and_eq_true] at h1
  rw [mayNameL, Bool.and_eq_true] at h2
  have h3 := of_decide_eq_true h1.1.1.2
  have h4 := of_decide_eq_true h2.1
  rw [Lib.size_eq, Lib.size_eq]
  omega
theorem mayEntry_parts {e : EntryD} (h : mayEntryD e = true) : e.1.size ≤ 1000 ∧ e.2.length ≤ 50 ∧ ∀ a ∈ e.2, a.1.size ≤ 1000 ∧ a.2.size ≤ 1000 := by
  rw [mayEntryD, Bool.and_eq_true] at h
  obtain ⟨h1, h2⟩ := h
  have h4 : e.1.data.toList.length ≤ 1000 := by rw [mayNameL, Bool.and_eq_true] at h1; exact of_decide_eq_true h1.1
  have h5 : e.2.length ≤ 50 := by have := h2; rw [mayAttrsD, Bool.and_eq_true] at this; exact of_decide_eq_true this.2
  exact ⟨by rw [Lib.size_eq]; exact h4, h5, fun a ha => mayAttr_size (all_mem h2 ha)⟩

theorem entZ_len {e : EntryD} (h : mayEntryD e = true) : (entZ e).2.length ≤ 105000 := by
  obtain ⟨h1, h2, h3⟩ := mayEntry_parts h
  have a := listZ_len (stp := stpB e.2) (L := 2015) (n := e.2.length) (fun i s hi => stpB_len e.2 h3 i s hi) (putZ (0, []) 1 e.1.data.toList) 2
  have b := putZ_len (0, []) 1 e.1.data.toList
  rw [← Lib.size_eq] at b
  rw [entZ, attrsZ]
  have : e.2.length * 2015 ≤ 50 * 2015 := Nat.mul_le_mul_right _ h2
  simp at b; omega

set_option maxRecDepth 100000 in
set_option maxHeartbeats 1000000 in
theorem entry_Bytes_no (e : EntryD) (A : Option Addr) (n c : Nat) (G : Nat → Prop) (w : World) (hr : Rd w G A n 2 (attrCells e.2)) (hn : n ≤ 1048576) (hm : mayEntryD e = false) :
    Calls Tryz.prog 71 #[.agg #[.string e.1, .slice A n c]] w fun r w' => r = .returned (.tuple #[.slice none 0 0, .int .i64 2]) ∧ Below w.heap.size w w' := by
  have hB := (Below.refl w.heap.size w).alloc (Nat.le_refl _) (.cells #[.string e.1, .slice A n c] 68)
  have hr1 := hr.alloc (.cells #[.string e.1, .slice A n c] 68)
  have HM := Lib.hid hm
  clear hm
  go_enter Tryz.func71, Tryz.ntmps71
  go_wp2_with (go_at_call 66; (with_reducible refine (entry_MayEntry e _ _ _ _ _ hr1 hn).mono ?_); rintro e' w' ⟨rfl, hb⟩; rw [HM.out])
  go_ret2
  exact ⟨rfl, hB.trans (hb.mono (by simp))⟩

/-- what Bytes says of a writer's end -/
def EndSays (s : Int × List UInt8) (w : World) (r : Ending) (w' : World) : Prop :=
  (if s.1 = 0 then ∃ v, r = .returned (.tuple #[v, .int .i64 0]) ∧ w'.ownsRow w.heap.size 5 1 v s.2.length (bV s.2) else r = .returned (.tuple #[.slice none 0 0, .int .i64 s.1])) ∧ Below w.heap.size w w'

set_option maxRecDepth 100000 in
set_option maxHeartbeats 1000000 in
theorem entry_Bytes (e : EntryD) (A : Option Addr) (n c : Nat) (G : Nat → Prop) (w : World) (hr : Rd w G A n 2 (attrCells e.2)) (hn : n ≤ 1048576) (hm : mayEntryD e = true) :
    Calls Tryz.prog 71 #[.agg #[.string e.1, .slice A n c]] w (EndSays (entZ e) w) := by
  have hB := (Below.refl w.heap.size w).alloc (Nat.le_refl _) (.cells #[.string e.1, .slice A n c] 68)
  have hBlk := Blk.new w 68 #[.string e.1, .slice A n c]
  have hr1 := hr.alloc (.cells #[.string e.1, .slice A n c] 68)
  obtain ⟨hM1, hM2, hM3⟩ := mayEntry_parts hm
  have hlen := entZ_len hm
  have hln : e.2.length = n := by have := hr.1; simp at this; omega
  have hn50 : n ≤ 50 := by omega
  have hpl := putZ_len (0, []) 1 e.1.data.toList
  rw [← Lib.size_eq] at hpl
  have HM := Lib.hid hm
  have HM3 := Lib.hid hM3
  have HPL := Lib.hid hpl
  have HLEN := Lib.hid hlen
  clear hm hM3 hln hpl hlen
  go_enter Tryz.func71, Tryz.ntmps71
  go_wp2_with (first
    | (go_at_call 66; (with_reducible refine (entry_MayEntry e _ _ _ _ _ hr1 hn).mono ?_); rintro e' w1 ⟨rfl, hb1⟩; rw [HM.out]; have hB1 := hB.trans (hb1.mono (by simp)); have k1 := hBlk.below hb1 (by simp); have d0 : w1.cell? ⟨w.heap.size, 0, none⟩ = some (.string e.1) := k1.cell 0; have d1 : w1.cell? ⟨w.heap.size, 1, none⟩ = some (.slice A n c) := k1.cell 1; have hlt1 : w.heap.size < w1.heap.size := by have := hb1.size; simp at this; omega)
    | (go_at_call 94; refine (tlv_Text w1.heap.size _ 0 [] 1 e.1 _ (wr_new w1) (by simp) (by simp)).mono ?_; rintro e' w2 ⟨rfl, hw2, hc2⟩; have hz2 := hc2.size; have hB2 := (hB1.alloc hB1.size (.cells #[Value.slice none 0 0, Value.int .i64 0] 125)).trans (hc2.below (by simp; have := hB1.size; omega) (fun k hk h => by have := hB1.size; omega)); have k2 := (k1.alloc (.cells #[Value.slice none 0 0, Value.int .i64 0] 125)).chg hc2 (by omega); have d2 : w2.cell? ⟨w.heap.size, 1, none⟩ = some (.slice A n c) := k2.cell 1; have hr2 := hr.below hB2 (fun k hk _ => hk); have hw2' := hw2.more (H := fun k => w1.heap.size ≤ k ∧ k < w2.heap.size) (fun k h1 h => by simp at h; omega))
    | (go_at_call 95; refine (entry_Put w1.heap.size _ _ _ 2 _ _ _ e.2 _ _ hw2' (by have := HPL.out.2; simp at this; omega) (fun k hk => hk.2) hr2 HM3.out hn50).mono ?_; rintro e' w3 ⟨rfl, hw3, hc3⟩; have hB3 := hB2.trans (hc3.below hB2.size (fun k hk h => by have := hB1.size; omega))))
  by_cases h0 : (entZ e).1 = 0
  · have hw4 : Wr w3 w1.heap.size (fun k => (w1.heap.size ≤ k ∧ k < w2.heap.size) ∨ w2.heap.size ≤ k) 0 (entZ e).2 := by rw [← h0]; exact hw3
    have H0 := Lib.hid h0
    clear h0
    refine (tlv_End _ _ _ _ hw4 (by have := HLEN.out; omega)).mono ?_
    rintro r w5 ⟨v, rfl, ho5, hb5⟩
    go_wp2
    go_ret2
    refine ⟨?_, hB3.trans (hb5.mono hB3.size)⟩
    rw [if_pos H0.out]
    exact ⟨_, rfl, own_base ho5 (fun k hk => Nat.le_trans hB3.size (ho5.lt k hk).1)⟩
  · have H0 := Lib.hid h0
    clear h0
    refine (tlv_End_bad _ _ _ H0.out _ _ hw3).mono ?_
    rintro r w5 ⟨rfl, hb5⟩
    go_wp2
    go_ret2
    refine ⟨?_, hB3.trans (hb5.mono hB3.size)⟩
    rw [if_neg H0.out]
    rfl

end Go.Proofs.YtenjdidjjggefaaGreat
