import Derived.Test.YtenjdidjjggefaaGreatNilB
namespace Go.Proofs.YtenjdidjjggefaaGreat
open Go.RowKit Go.Shelf Go.Sort Go.Maps
attribute [local go_sem] Oper.semAt_some wide_fn wide_depth

set_option maxRecDepth 100000 in
set_option maxHeartbeats 400000 in
theorem all1_nil (n l Bs : Nat) (J Jx : List Nat → World → Prop) (W : World) (hBs : W.cell? ⟨Bs, 0, none⟩ = some (.pointer none)) (h0 : J [] W) :
    CallsIn Fence.wide n Tryz.prog 33 #[.func (.yield l) #[] #[], .pointer (some ⟨Bs, 0, none⟩)] W fun e W' => (∃ v, e = .returned v) ∧
      ((∃ ys, ys = [] ∧ J ys W') ∨ (∃ pre, False ∧ Jx pre W')) := by
  refine callsIn_of_wp Tryz.func33 rfl trivial ?_ rfl
  simp only [Tryz.ntmps33, List.size_toArray, List.length_cons, List.length_nil, Nat.reduceAdd, Nat.reduceSub, Array.replicate_succ, Array.replicate_zero, List.push_toArray, List.append_toArray, List.nil_append, List.cons_append]
  gi_wp2
  refine bodyPost_ret (results_none rfl _ _ _) rfl ?_
  exact ⟨⟨_, rfl⟩, .inl ⟨[], rfl, h0⟩⟩

theorem all_nil_stops (n Bs : Nat) (w : World) (hBs : Bs < w.heap.size) (hc : w.cell? ⟨Bs, 0, none⟩ = some (.pointer none)) :
    SeqStopsK Fence.wide n Tryz.prog 33 #[.pointer (some ⟨Bs, 0, none⟩)] (fun x : Nat => #[Value.int .u64 (x : Int), .int .u64 (x : Int)]) (fun _ _ => True) (fun ys => ys = []) (fun _ => False) 0 w := fun l J Jx W hW _ _ _ h0 => by
  have hc' := (hW.cell (p := ⟨Bs, 0, none⟩) hBs).trans hc
  exact all1_nil n l Bs J Jx W hc' h0

/-- the law's own blocks: the answer, the zero table, the two pointers; the marks of the ranges that are done -/
structure NilW (w : World) (Ds : List Nat) (W : World) : Prop where
  b0 : Blk W w.heap.size 4 #[.bool false]
  b1 : Blk W (w.heap.size + 1) 47 #[.map none]
  b2 : Blk W (w.heap.size + 1 + 1) 25 #[.pointer none, .pointer (some ⟨w.heap.size + 1, 0, none⟩)]
  be : Below w.heap.size w W
  ds : ∀ D ∈ Ds, w.heap.size ≤ D ∧ W.heap[D]? = some (.deferred (some []))
theorem NilW.go {w W W' : World} {Ds : List Nat} (h : NilW w Ds W) (hB : Below W.heap.size W W') : NilW w Ds W' :=
  ⟨h.b0.below hB h.b0.lt, h.b1.below hB h.b1.lt, h.b2.below hB h.b2.lt, h.be.trans (hB.mono h.be.size), fun D hD => ⟨(h.ds D hD).1, (hB.block D (Array.getElem?_eq_some_iff.1 (h.ds D hD).2).1).trans (h.ds D hD).2⟩⟩
theorem NilW.alloc {w W : World} {Ds : List Nat} (h : NilW w Ds W) (o : Obj) : NilW w Ds (W.alloc o) := h.go ((Below.refl _ W).alloc (Nat.le_refl _) o)
theorem NilW.own {w W : World} {Ds : List Nat} (h : NilW w Ds W) : OwnFrom W.heap.size (fun (_ : List Nat) W' => NilW w Ds W' ∧ Below W.heap.size W W') := fun _ A B row hs hg hr => by
  obtain ⟨h1, h2⟩ := hs
  have hb : Below W.heap.size A B := ⟨hg.os, hg.tape, hg.output, hg.size, fun k hk => hg.block k (by have := h2.size; omega) (fun e => by have := (hr k e.symm).1; omega)⟩
  exact ⟨h.go (h2.trans hb), h2.trans hb⟩

theorem nil_start (w : World) : NilW w [] (((w.alloc (.cells #[.bool false] 4)).alloc (.cells #[.map none] 47)).alloc (.cells #[.pointer none, .pointer (some ⟨w.heap.size + 1, 0, none⟩)] 25)) := by
  have h0 := ((Blk.new w 4 #[.bool false]).alloc (.cells #[.map none] 47)).alloc (.cells #[.pointer none, .pointer (some ⟨w.heap.size + 1, 0, none⟩)] 25)
  have h1 := (Blk.new (w.alloc (.cells #[.bool false] 4)) 47 #[.map none]).alloc (.cells #[.pointer none, .pointer (some ⟨w.heap.size + 1, 0, none⟩)] 25)
  have h2 := Blk.new ((w.alloc (.cells #[.bool false] 4)).alloc (.cells #[.map none] 47)) 25 #[.pointer none, .pointer (some ⟨w.heap.size + 1, 0, none⟩)]
  simp only [World.size_alloc] at h1 h2
  exact ⟨h0, h1, h2, (((Below.refl _ w).alloc (Nat.le_refl _) _).alloc (by simp) _).alloc (by simp; omega) _, fun D hD => by simp at hD⟩

theorem nil_leaves (w w8 : World) (D E : Nat) (hDE : D < E) (N8 : NilW w [D, E] w8) (tmps : Array Value) (ht : tmps.getD 0 undef = .pointer (some ⟨w.heap.size, 0, none⟩)) :
    LeavesInM Fence.wide 5 Tryz.prog Tryz.f5 tmps (fun e w' => e = .returned (.bool true) ∧ Below w.heap.size w w') [{ target := .collected E, args := #[] }, { target := .collected D, args := #[] }] .returning
      (w8.setCell ⟨w.heap.size, 0, none⟩ (.bool true)) := by
  have hD := N8.ds D (by simp)
  have hE := N8.ds E (by simp)
  have hb0 : w8.heap[w.heap.size]? = some (.cells #[.bool false] 4 (0, 0)) := N8.b0
  have nD : D ≠ w.heap.size := by
    rintro rfl
    rw [hb0] at hD; cases hD.2
  have nE : E ≠ w.heap.size := by
    rintro rfl
    rw [hb0] at hE; cases hE.2
  have b9 := N8.b0.set_ 0 (.bool true)
  have be9 := N8.be.setCell (p := ⟨w.heap.size, 0, none⟩) (Nat.le_refl _) (.bool true)
  have d9 := (Below.heap_setCell w8 ⟨w.heap.size, 0, none⟩ (.bool true) D nD).trans hD.2
  have e9 := (Below.heap_setCell w8 ⟨w.heap.size, 0, none⟩ (.bool true) E nE).trans hE.2
  have ba := belowK_b (w := w) (Nat.le_refl _) _ E _ (.deferred none) hE.1 e9 rfl rfl
  have da : ((w8.setCell ⟨w.heap.size, 0, none⟩ (.bool true)).putObj E (.deferred none)).heap[D]? = some (.deferred (some [])) := (World.putObj_heap_other (by omega)).trans d9
  have bb := belowK_b (w := w) (Nat.le_refl _) _ D _ (.deferred none) hD.1 da rfl rfl
  have b10 : Blk ((w8.setCell ⟨w.heap.size, 0, none⟩ (.bool true)).putObj E (.deferred none)) w.heap.size 4 #[.bool true] := (World.putObj_heap_other (by omega)).trans b9
  have b11 : Blk (((w8.setCell ⟨w.heap.size, 0, none⟩ (.bool true)).putObj E (.deferred none)).putObj D (.deferred none)) w.heap.size 4 #[.bool true] := (World.putObj_heap_other (by omega)).trans b10
  have c11 := b11.cell 0
  simp only [List.getElem?_toArray, List.getElem?_cons_zero] at c11
  refine ⟨by simp, .inl ⟨_, _, rfl, run_takeDeferred e9, by simp, .inl ⟨_, _, rfl, run_takeDeferred da, ?_⟩⟩⟩
  refine ⟨.bool true, ?_, rfl, (be9.trans ba).trans bb⟩
  simp only [Array.getD_eq_getD_getElem?] at ht
  simp [results, Tryz.results5, go_sem, ht, c11]

set_option maxRecDepth 100000 in
set_option maxHeartbeats 2000000 in
theorem law_nil_in (w : World) : CallsIn Fence.wide 5 Tryz.prog 5 #[] w fun e w' => e = .returned (.bool true) ∧ Below w.heap.size w w' := by
  refine callsIn_of_wp_marks Tryz.func5 rfl trivial ?_ rfl
  simp only [Tryz.ntmps5, List.size_toArray, List.length_cons, List.length_nil, Nat.reduceAdd, Nat.reduceSub, Array.replicate_succ, Array.replicate_zero, List.push_toArray, List.append_toArray, List.nil_append, List.cons_append]
  gi_wp2
  refine wpIn_loop_rounds 3 ?_
  rw [roundsIn_succ]
  have hfn := fun (W : World) (b : Nat) => run_eql_func_nil (P := Tryz.prog) W (t := 53) (.func 33) #[] #[.pointer (some ⟨b, 0, none⟩)] Tryz.underlying53
  have N0 : NilW w [] (((w.alloc (.cells #[.bool false] 4)).alloc (.cells #[.map none] 47)).alloc (.cells #[.pointer none, .pointer (some ⟨w.heap.size + 1, 0, none⟩)] 25)) := nil_start w
  gi_wp2_with (first
    | (gi_at_call 15; refine (callsIn_wide.2 (Ask_nil _)).mono ?_; rintro e1 w1 ⟨rfl, hb1⟩; have N1 := (N0.go hb1).alloc (.cells #[.int .i64 0, .bool false, .slice none 0 0, .slice none 0 0] 37))
    | (gi_at_call 11; refine (callsIn_wide.2 (Latest_nil _)).mono ?_; rintro e2 w2 ⟨rfl, hb2⟩; have N2 := N1.go hb2)
    | (gi_at_call 16; refine (callsIn_wide.2 (All_nil _)).mono ?_; rintro e3 w3 ⟨rfl, hq⟩; have hq3 := hq; clear hq; subst hq3; have N3 := N2.alloc (.cells #[.pointer none] 25)))
  refine wpIn_rangeFunc_ownF rfl (by omega) (gf := 33) (lb := #[.pointer (some ⟨w2.heap.size, 0, none⟩)]) rfl trivial (enters_of Tryz.func33 (by kernel_rfl) rfl)
    (all_nil_stops _ w2.heap.size _ (by simp) ((Blk.new w2 25 #[.pointer none]).cell 0)) (fun _ _ => trivial) (fun _ _ _ _ _ _ _ _ => trivial) (Below.refl _ _) (fun _ => rfl)
    (fun xs W => NilW w [] W ∧ Below (w2.alloc (.cells #[.pointer none] 25)).heap.size (w2.alloc (.cells #[.pointer none] 25)) W) (fun _ _ _ => False) N3.own (fun _ _ _ _ _ hs _ _ => hs) ⟨N3, Below.refl _ _⟩ ?aone ?assign ?body ?done ?stop
  case body => exact fun _ _ _ _ _ h => absurd h (by omega)
  case stop => exact fun _ _ _ _ _ _ h _ => h.elim
  case assign =>
    intro l x W K hK
    gi_wp2
    exact hK
  case done =>
    rintro D ys W hD rfl ⟨hN, hB⟩ hK
    have N4 : NilW w [D] W := ⟨hN.b0, hN.b1, hN.b2, hN.be, fun D' h => by
      simp at h
      rw [h]
      exact ⟨Nat.le_trans N3.be.size hD, hK⟩⟩
    clear hN hB hD hK
    gi_wp2_with (first
      | (gi_at_call 12; (with_reducible refine (callsIn_wide.2 (Put_nil _)).mono ?_); rintro ea5 wa5 ⟨rfl, hba5⟩; have Na5 := N4.go hba5)
      | (gi_at_call 17; (with_reducible refine (callsIn_wide.2 (Len_nil _)).mono ?_); rintro e0 w0 ⟨rfl, hq⟩; have hq0 := hq.symm; clear hq; subst hq0)
      | (gi_at_call 18; (with_reducible refine (callsIn_wide.2 (Bytes_nil _)).mono ?_); rintro ea6 wa6 ⟨rfl, hba6⟩; have Na6 := Na5.go hba6)
      | (gi_at_call 10; (with_reducible refine (callsIn_wide.2 (Copy_nil _)).mono ?_); rintro e0 w0 ⟨rfl, hq⟩; have hq0 := hq.symm; clear hq; subst hq0)
      | (gi_at_call 13; (with_reducible refine (callsIn_wide.2 (Same_nil _)).mono ?_); rintro e0 w0 ⟨rfl, hq⟩; have hq0 := hq.symm; clear hq; subst hq0)
      | (gi_at_call 19; (with_reducible refine (callsIn_wide.2 (cli_New _)).mono ?_); rintro ea7 wa7 ⟨rfl, hta7, hba7, hza7⟩; have ta7 := hta7.1; have Na7 := Na6.go hba7; clear hza7)
      | (gi_at_call 13; (with_reducible refine (callsIn_wide.2 (SameNew_nil _ _ _ ta7)).mono ?_); rintro e0 w0 ⟨rfl, hq⟩; have hq0 := hq.symm; clear hq; subst hq0))
    rw [roundsIn_succ]
    have d1 := Na7.b2.cell 1
    simp only [List.getElem?_toArray, List.getElem?_cons_zero, List.getElem?_cons_succ] at d1
    gi_wp2_with (first
      | (gi_at_call 15; (with_reducible refine (callsIn_wide.2 (Ask_zero _ _ Na7.b1)).mono ?_); rintro e1 w3 ⟨rfl, hb1⟩; have M1 := (Na7.go hb1).alloc (.cells #[.int .i64 0, .bool false, .slice none 0 0, .slice none 0 0] 37))
      | (gi_at_call 11; (with_reducible refine (callsIn_wide.2 (Latest_zero _ _ M1.b1)).mono ?_); rintro e2 w4 ⟨rfl, hb2⟩; have M2 := M1.go hb2)
      | (gi_at_call 16; (with_reducible refine (callsIn_wide.2 (All_zero _ _ M2.b1)).mono ?_); rintro e3 w5 ⟨rfl, hq⟩; have hq3 := hq; clear hq; subst hq3; have M3 := M2.alloc (.cells #[.pointer none] 25)))
    refine wpIn_rangeFunc_ownF rfl (by omega) (gf := 33) (lb := #[.pointer (some ⟨w4.heap.size, 0, none⟩)]) rfl trivial (enters_of Tryz.func33 (by kernel_rfl) rfl)
      (all_nil_stops _ w4.heap.size _ (by simp) ((Blk.new w4 25 #[.pointer none]).cell 0)) (fun _ _ => trivial) (fun _ _ _ _ _ _ _ _ => trivial) (Below.refl _ _) (fun _ => rfl)
      (fun xs W => NilW w [D] W ∧ Below (w4.alloc (.cells #[.pointer none] 25)).heap.size (w4.alloc (.cells #[.pointer none] 25)) W) (fun _ _ _ => False) M3.own (fun _ _ _ _ _ hs _ _ => hs) ⟨M3, Below.refl _ _⟩ ?atwo ?assign ?body ?done ?stop
    case body => exact fun _ _ _ _ _ h => absurd h (by omega)
    case stop => exact fun _ _ _ _ _ _ h _ => h.elim
    case assign =>
      intro l x W K hK
      gi_wp2
      exact hK
    case done =>
      rintro E ys W hE rfl ⟨hN, hB⟩ hK
      have hDE : D < E := by
        have := (Array.getElem?_eq_some_iff.1 (M3.ds D (by simp)).2).1
        omega
      have N4 : NilW w [D, E] W := ⟨hN.b0, hN.b1, hN.b2, hN.be, fun D' h => by
        simp at h
        rcases h with h | h
        · rw [h]; exact hN.ds D (by simp)
        · rw [h]; exact ⟨Nat.le_trans M3.be.size hE, hK⟩⟩
      clear hN hB hE hK
      gi_wp2_with (first
        | (gi_at_call 12; (with_reducible refine (callsIn_wide.2 (Put_zero _ _ N4.b1)).mono ?_); rintro eb5 wb5 ⟨rfl, hbb5⟩; have Nb5 := N4.go hbb5)
        | (gi_at_call 17; (with_reducible refine (callsIn_wide.2 (Len_zero _ _ Nb5.b1)).mono ?_); rintro e0 w0 ⟨rfl, hq⟩; have hq0 := hq.symm; clear hq; subst hq0)
        | (gi_at_call 18; (with_reducible refine (callsIn_wide.2 (Bytes_zero _ _ Nb5.b1)).mono ?_); rintro eb6 wb6 ⟨rfl, hbb6⟩; have Nb6 := Nb5.go hbb6)
        | (gi_at_call 10; (with_reducible refine (callsIn_wide.2 (Copy_zero _ _ Nb6.b1)).mono ?_); rintro e0 w0 ⟨rfl, hq⟩; have hq0 := hq.symm; clear hq; subst hq0)
        | (gi_at_call 13; (with_reducible refine (callsIn_wide.2 (Same_zero _ _ Nb6.b1)).mono ?_); rintro e0 w0 ⟨rfl, hq⟩; have hq0 := hq.symm; clear hq; subst hq0)
        | (gi_at_call 19; (with_reducible refine (callsIn_wide.2 (cli_New _)).mono ?_); rintro eb7 wb7 ⟨rfl, htb7, hbb7, hzb7⟩; have tb7 := htb7.1; have Nb7 := Nb6.go hbb7; clear hzb7)
        | (gi_at_call 13; (with_reducible refine (callsIn_wide.2 (SameNew_zero _ _ Nb7.b1 _ _ tb7)).mono ?_); rintro e0 w0 ⟨rfl, hq⟩; have hq0 := hq.symm; clear hq; subst hq0))
      rw [roundsIn_succ]
      gi_wp2_with (gi_at_call 8; (with_reducible refine (callsIn_wide.2 (law_known _)).mono ?_); rintro e8 w8 ⟨rfl, hb8⟩; have N8 := Nb7.go hb8; have f8 := N8.b0.frozen 0; have g8 := N8.b0.cell 0; simp at g8)
      exact nil_leaves w w8 D E hDE N8 _ rfl

theorem law_nil (w : World) : Calls Tryz.prog 5 #[] w fun e w' => e = .returned (.bool true) ∧ Below w.heap.size w w' :=
  callsIn_wide.1 (law_nil_in w)

end Go.Proofs.YtenjdidjjggefaaGreat
