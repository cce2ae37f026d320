import Derived.Test.YtenjdidjjggefaaGreatRunes
namespace Go.Proofs.YtenjdidjjggefaaGreat
open Go.RowKit Go.Shelf
attribute [local go_sem] Oper.semAt_some wide_fn wide_depth

/-- where the last rune ends -/
def endOf (pre : List (Nat × Int)) : Int := pre.foldl (fun _ x => wrap64 ((x.1 : Int) + sizeZ x.2)) 0
theorem endOf_snoc (pre : List (Nat × Int)) (x : Nat × Int) : endOf (pre ++ [x]) = wrap64 ((x.1 : Int) + sizeZ x.2) := by simp [endOf]

set_option maxRecDepth 100000 in
set_option maxHeartbeats 2000000 in
theorem utf_Where_in (s : ByteArray) (hs : s.size ≤ 1048576) (w : World) :
    CallsIn Fence.wide 5 Tryz.prog 126 #[.string s] w fun e w' => e = .returned (.int .i64 (endOf (runesL s.data.toList))) ∧ Below w.heap.size w w' := by
  refine callsIn_of_wp_marks Tryz.func126 rfl trivial ?_ rfl
  simp only [Tryz.ntmps126, List.size_toArray, List.length_cons, List.length_nil, Nat.reduceAdd, Nat.reduceSub, Array.replicate_succ, Array.replicate_zero, List.push_toArray, List.append_toArray, List.nil_append, List.cons_append]
  gi_wp2_with (gi_at_call 134; refine (utf_Runes _ _ _).mono ?_; rintro e w' ⟨rfl, rfl⟩)
  have b0 : Boxed ((w.alloc (.cells #[.int .i64 0] 3)).alloc (.cells #[.string s] 9)) w.heap.size 3 (.int .i64 0) := (Boxed.new _ _ _).alloc _
  have b1 := Boxed.new (w.alloc (.cells #[.int .i64 0] 3)) 9 (.string s)
  rw [World.size_alloc] at b1
  have hB0 : Below w.heap.size w ((w.alloc (.cells #[.int .i64 0] 3)).alloc (.cells #[.string s] 9)) := ((Below.refl _ w).alloc (Nat.le_refl _) _).alloc (by simp) _
  refine wpIn_rangeFunc_ownF rfl (by omega) (gf := 138) (lb := #[.pointer (some ⟨w.heap.size + 1, 0, none⟩)]) rfl trivial (enters_of Tryz.func138 (by kernel_rfl) rfl)
    (runes_stops _ (w.heap.size + 1) s hs _ (by simp) b1.cell) KeepG.trans (KeepG.put (by simp)) (Below.refl _ _) (fun _ => rfl)
    (fun pre W => Boxed W w.heap.size 3 (.int .i64 (endOf pre)) ∧ Below w.heap.size w W)
    (fun _ _ _ => False)
    (OwnFrom.and (Own.from (boxed_own _ _ _) _) (ownFrom_below (Nat.le_refl _) (by simp; omega)))
    (fun _ _ _ _ _ hs _ _ => hs)
    ⟨b0, hB0⟩
    (fun x => { tmps := #[.string s, undef, .int .i64 0, .pointer (some ⟨w.heap.size, 0, none⟩), .int .i64 (x.1 : Int), .int .i32 x.2, .string s, .func (.func 138) #[] #[.pointer (some ⟨w.heap.size + 1, 0, none⟩)], .int .i64 (x.1 : Int), .int .i32 x.2, undef, undef, undef, undef, undef], defers := [] }) ?assign ?body ?done ?stop
  case assign =>
    intro l x W K hK
    gi_wp2
    exact hK
  case body =>
    rintro l pre x W ⟨hb, hB⟩ _
    have hc := hb.cell
    have hf := hb.frozen
    gi_wp2_with (gi_at_call 135; refine (CallsIn.inRound l (callsIn_wide.2 (utf_Size _ _))).mono ?_; rintro e w' ⟨rfl, rfl⟩)
    exact ⟨KeepsOthers.setCell _ _ _, (KeepG.refl _ _).setCell (p := ⟨w.heap.size, 0, none⟩) (by simp) _, by rw [endOf_snoc]; exact hb.set _, hB.setCell (p := ⟨w.heap.size, 0, none⟩) (Nat.le_refl _) _⟩
  case done =>
    rintro D ys W hD rfl ⟨hb, hB⟩ hK
    have hc := hb.cell
    gi_wp2
    refine ⟨by simp, .inl ⟨_, _, rfl, run_takeDeferred hK, ?_⟩⟩
    exact ⟨_, results_tmp rfl _ _ _, rfl, hB.trans (belowK_b (w := w) (Nat.le_refl _) W D _ _ (by simp at hD; omega) hK rfl rfl)⟩
  case stop =>
    rintro D c pre W _ _ h _
    exact h.elim

theorem utf_Where (s : ByteArray) (hs : s.size ≤ 1048576) (w : World) :
    Calls Tryz.prog 126 #[.string s] w fun e w' => e = .returned (.int .i64 (endOf (runesL s.data.toList))) ∧ Below w.heap.size w w' :=
  callsIn_wide.1 (utf_Where_in s hs w)

/-- is a text well made? -/
def validL (l : List UInt8) : Bool := endOf (runesL l) == (l.length : Int)

set_option maxHeartbeats 400000 in
theorem utf_Valid (s : ByteArray) (hs : s.size ≤ 1048576) (w : World) :
    Calls Tryz.prog 113 #[.string s] w fun e w' => e = .returned (.bool (validL s.data.toList)) ∧ Below w.heap.size w w' := by
  go_enter Tryz.func113, Tryz.ntmps113
  go_wp2_with (go_at_call 126; refine (utf_Where _ hs _).mono ?_; rintro e w' ⟨rfl, hb⟩)
  go_ret
  exact ⟨by rw [validL, ← Lib.size_eq]; rfl, ‹_›⟩

end Go.Proofs.YtenjdidjjggefaaGreat
