import Derived.Test.YtenjdidjjggefaaGreatNilA
namespace Go.Proofs.YtenjdidjjggefaaGreat
open Go.RowKit Go.Shelf Go.Sort Go.Maps

theorem look_nil1 (W : World) : (Instr.lookup 45 (.map none) (.int .u64 1) true).run Tryz.prog W = .ok (.tuple #[.agg #[.int .u64 0, .slice none 0 0], .bool false]) W := by kernel_rfl

set_option maxRecDepth 100000 in
set_option maxHeartbeats 1000000 in
theorem there_nil (w : World) : Calls Tryz.prog 24 #[.pointer none] w fun e w' => e = .returned (.bool false) ∧ w' = w := by
  go_enter Tryz.func24, Tryz.ntmps24
  go_wp2_with (fail)
  go_ret
  exact ⟨rfl, rfl⟩

set_option maxRecDepth 100000 in
set_option maxHeartbeats 1000000 in
theorem there_zero (g : Nat) (w : World) (hz : Blk w g 47 #[.map none]) : Calls Tryz.prog 24 #[.pointer (some ⟨g, 0, none⟩)] w fun e w' => e = .returned (.bool false) ∧ w' = w := by
  have c0 := hz.cell 0
  simp only [List.getElem?_toArray, List.getElem?_cons_zero] at c0
  have hq := fun (W : World) => run_neq_map_nil (P := Tryz.prog) W 45 _ _ none Tryz.underlying45
  go_enter Tryz.func24, Tryz.ntmps24
  go_wp2_with (fail)
  go_ret
  exact ⟨rfl, rfl⟩

set_option maxRecDepth 100000 in
set_option maxHeartbeats 1000000 in
theorem Latest_nil (w : World) : Calls Tryz.prog 11 #[.pointer none, .int .u64 1] w fun e w' => e = .returned (.tuple #[.int .u64 0, .bool false]) ∧ Below w.heap.size w w' := by
  go_enter Tryz.func11, Tryz.ntmps11
  go_wp2_with (fail)
  go_ret2
  exact ⟨rfl, Below.refl _ _⟩

set_option maxRecDepth 100000 in
set_option maxHeartbeats 1000000 in
theorem Latest_zero (g : Nat) (w : World) (hz : Blk w g 47 #[.map none]) : Calls Tryz.prog 11 #[.pointer (some ⟨g, 0, none⟩), .int .u64 1] w fun e w' => e = .returned (.tuple #[.int .u64 0, .bool false]) ∧ Below w.heap.size w w' := by
  have c0 := hz.cell 0
  simp only [List.getElem?_toArray, List.getElem?_cons_zero] at c0
  have hl := look_nil1
  go_enter Tryz.func11, Tryz.ntmps11
  go_wp2_with (fail)
  go_ret2
  exact ⟨rfl, ((Below.refl w.heap.size w).alloc (Nat.le_refl _) (.cells #[.int .u64 0, .slice none 0 0] 74))⟩

set_option maxRecDepth 100000 in
set_option maxHeartbeats 1000000 in
theorem Len_nil (w : World) : Calls Tryz.prog 17 #[.pointer none] w fun e w' => e = .returned (.int .i64 0) ∧ w' = w := by
  go_enter Tryz.func17, Tryz.ntmps17
  go_wp2_with (fail)
  go_ret
  exact ⟨rfl, rfl⟩

set_option maxRecDepth 100000 in
set_option maxHeartbeats 1000000 in
theorem Len_zero (g : Nat) (w : World) (hz : Blk w g 47 #[.map none]) : Calls Tryz.prog 17 #[.pointer (some ⟨g, 0, none⟩)] w fun e w' => e = .returned (.int .i64 0) ∧ w' = w := by
  have c0 := hz.cell 0
  simp only [List.getElem?_toArray, List.getElem?_cons_zero] at c0
  have hl := fun (W : World) ty => Maps.len_nil (P := Tryz.prog) (w := W) Tryz.underlying45 ty
  go_enter Tryz.func17, Tryz.ntmps17
  go_wp2_with (fail)
  go_ret
  exact ⟨rfl, rfl⟩

set_option maxRecDepth 100000 in
set_option maxHeartbeats 1000000 in
theorem Copy_nil (w : World) : Calls Tryz.prog 10 #[.pointer none] w fun e w' => e = .returned (.pointer none) ∧ w' = w := by
  go_enter Tryz.func10, Tryz.ntmps10
  go_wp2_with ((go_at_call 24; (with_reducible refine (there_nil _).mono ?_); rintro e2 w2 ⟨rfl, hq⟩; have hq2 := hq.symm; clear hq; subst hq2))
  go_ret
  exact ⟨rfl, rfl⟩

set_option maxRecDepth 100000 in
set_option maxHeartbeats 1000000 in
theorem Copy_zero (g : Nat) (w : World) (hz : Blk w g 47 #[.map none]) : Calls Tryz.prog 10 #[.pointer (some ⟨g, 0, none⟩)] w fun e w' => e = .returned (.pointer none) ∧ w' = w := by
  have c0 := hz.cell 0
  simp only [List.getElem?_toArray, List.getElem?_cons_zero] at c0
  go_enter Tryz.func10, Tryz.ntmps10
  go_wp2_with ((go_at_call 24; (with_reducible refine (there_zero g _ hz).mono ?_); rintro e2 w2 ⟨rfl, hq⟩; have hq2 := hq.symm; clear hq; subst hq2))
  go_ret
  exact ⟨rfl, rfl⟩

set_option maxRecDepth 100000 in
set_option maxHeartbeats 1000000 in
theorem Same_nil (w : World) : Calls Tryz.prog 13 #[.pointer none, .pointer none] w fun e w' => e = .returned (.bool true) ∧ w' = w := by
  go_enter Tryz.func13, Tryz.ntmps13
  go_wp2_with (first | (go_at_call 24; (with_reducible refine (there_nil _).mono ?_); rintro e2 w2 ⟨rfl, hq⟩; have hq2 := hq.symm; clear hq; subst hq2) | (go_at_call 24; (with_reducible refine (there_nil _).mono ?_); rintro e2 w2 ⟨rfl, hq⟩; have hq2 := hq.symm; clear hq; subst hq2))
  go_ret
  exact ⟨rfl, rfl⟩

set_option maxRecDepth 100000 in
set_option maxHeartbeats 1000000 in
theorem Same_zero (g : Nat) (w : World) (hz : Blk w g 47 #[.map none]) : Calls Tryz.prog 13 #[.pointer (some ⟨g, 0, none⟩), .pointer none] w fun e w' => e = .returned (.bool true) ∧ w' = w := by
  have c0 := hz.cell 0
  simp only [List.getElem?_toArray, List.getElem?_cons_zero] at c0
  go_enter Tryz.func13, Tryz.ntmps13
  go_wp2_with (first | (go_at_call 24; (with_reducible refine (there_zero g _ hz).mono ?_); rintro e2 w2 ⟨rfl, hq⟩; have hq2 := hq.symm; clear hq; subst hq2) | (go_at_call 24; (with_reducible refine (there_nil _).mono ?_); rintro e2 w2 ⟨rfl, hq⟩; have hq2 := hq.symm; clear hq; subst hq2))
  go_ret
  exact ⟨rfl, rfl⟩

theorem zero_may : mayResD ⟨0, false, [], []⟩ = true := by decide

set_option maxRecDepth 100000 in
set_option maxHeartbeats 1000000 in
theorem Put_nil (w : World) : Calls Tryz.prog 12 #[.pointer none, .int .u64 1, .int .u64 1, .agg #[.int .i64 0, .bool false, .slice none 0 0, .slice none 0 0]] w fun e w' => e = .returned (.int .i64 1) ∧ Below w.heap.size w w' := by
  go_enter Tryz.func12, Tryz.ntmps12
  go_wp2_with (first
    | (go_at_call 24; (with_reducible refine (there_nil _).mono ?_); rintro e2 w2 ⟨rfl, hq⟩; have hq2 := hq.symm; clear hq; subst hq2)
    | (go_at_call 26; refine (res_bytes 0 false [] [] none none 0 0 0 0 (fun _ => True) _ (RE.none_ _ _ _) (Rd.none_ _ _ _ _) (by omega) (by omega)).mono ?_; rintro e1 w1 ⟨hres, hb1⟩; rw [if_pos zero_may] at hres; obtain ⟨v, rfl, ho⟩ := hres; have hB1 := ((Below.refl w.heap.size w).alloc (Nat.le_refl _) (.cells #[.int .i64 0, .bool false, .slice none 0 0, .slice none 0 0] 37)).trans (hb1.mono (by simp))))
  go_ret
  exact ⟨rfl, hB1⟩

set_option maxRecDepth 100000 in
set_option maxHeartbeats 1000000 in
theorem Put_zero (g : Nat) (w : World) (hz : Blk w g 47 #[.map none]) : Calls Tryz.prog 12 #[.pointer (some ⟨g, 0, none⟩), .int .u64 1, .int .u64 1, .agg #[.int .i64 0, .bool false, .slice none 0 0, .slice none 0 0]] w fun e w' => e = .returned (.int .i64 1) ∧ Below w.heap.size w w' := by
  have c0 := hz.cell 0
  simp only [List.getElem?_toArray, List.getElem?_cons_zero] at c0
  go_enter Tryz.func12, Tryz.ntmps12
  go_wp2_with (first
    | (go_at_call 24; (with_reducible refine (there_zero g _ hz1).mono ?_); rintro e2 w2 ⟨rfl, hq⟩; have hq2 := hq.symm; clear hq; subst hq2)
    | (go_at_call 26; refine (res_bytes 0 false [] [] none none 0 0 0 0 (fun _ => True) _ (RE.none_ _ _ _) (Rd.none_ _ _ _ _) (by omega) (by omega)).mono ?_; rintro e1 w1 ⟨hres, hb1⟩; rw [if_pos zero_may] at hres; obtain ⟨v, rfl, ho⟩ := hres; have hB1 := ((Below.refl w.heap.size w).alloc (Nat.le_refl _) (.cells #[.int .i64 0, .bool false, .slice none 0 0, .slice none 0 0] 37)).trans (hb1.mono (by simp)); have hz1 := hz.below hB1 hz.lt))
  go_ret
  exact ⟨rfl, hB1⟩

set_option maxRecDepth 100000 in
set_option maxHeartbeats 1000000 in
theorem SameNew_nil (w : World) (g2 b2 : Nat) (h2 : Blk w g2 47 #[.map (some b2)]) : Calls Tryz.prog 13 #[.pointer none, .pointer (some ⟨g2, 0, none⟩)] w fun e w' => e = .returned (.bool false) ∧ w' = w := by
  go_enter Tryz.func13, Tryz.ntmps13
  go_wp2_with (first | (go_at_call 24; (with_reducible refine (there_nil _).mono ?_); rintro e2 w2 ⟨rfl, hq⟩; have hq2 := hq.symm; clear hq; subst hq2) | (go_at_call 24; (with_reducible refine (cli_there g2 b2 _ h2).mono ?_); rintro e2 w2 ⟨rfl, hq⟩; have hq2 := hq.symm; clear hq; subst hq2))
  go_ret
  exact ⟨rfl, rfl⟩

set_option maxRecDepth 100000 in
set_option maxHeartbeats 1000000 in
theorem Bytes_nil (w : World) : Calls Tryz.prog 18 #[.pointer none] w fun e w' => e = .returned (.slice none 0 0) ∧ Below w.heap.size w w' := by
  go_enter Tryz.func18, Tryz.ntmps18
  go_wp2_with ((go_at_call 24; (with_reducible refine (there_nil _).mono ?_); rintro e2 w2 ⟨rfl, hq⟩; have hq2 := hq.symm; clear hq; subst hq2))
  go_ret
  exact ⟨rfl, (Below.refl w.heap.size w).alloc (Nat.le_refl _) (.cells #[.pointer none] 25)⟩

set_option maxRecDepth 100000 in
set_option maxHeartbeats 1000000 in
theorem Ask_nil (w : World) : Calls Tryz.prog 15 #[.pointer none, .int .u64 1, .int .u64 1] w fun e w' => e = .returned (.tuple #[.int .i64 1, .agg #[.int .i64 0, .bool false, .slice none 0 0, .slice none 0 0]]) ∧ Below w.heap.size w w' := by
  have hB0 := (Below.refl w.heap.size w).alloc (Nat.le_refl _) (.cells #[.int .i64 0, .bool false, .slice none 0 0, .slice none 0 0] 37)
  have hk0 := Blk.new w 37 #[.int .i64 0, .bool false, .slice none 0 0, .slice none 0 0]
  go_enter Tryz.func15, Tryz.ntmps15
  go_wp2_with ((go_at_call 11; (with_reducible refine (Latest_nil _).mono ?_); rintro e3 w3 ⟨rfl, hb3⟩; have hB3 := hB0.trans (hb3.mono (by simp)); have k3 := hk0.below hb3 (by simp); have f0 := k3.frozen 0; have f1 := k3.frozen 1; have f2 := k3.frozen 2; have f3 := k3.frozen 3; have c0 := k3.cell 0; have c1 := k3.cell 1; have c2 := k3.cell 2; have c3 := k3.cell 3; simp at c0 c1 c2 c3))
  (try simp only [Exit.inBlock, Exit.then])
  have k10 := (((k3.set_ 0 (.int .i64 0)).set_ 1 (.bool false)).set_ 2 (.slice none 0 0)).set_ 3 (.slice none 0 0)
  have hB10 := (((hB3.setCell (p := ⟨w.heap.size, 0, none⟩) (Nat.le_refl _) (.int .i64 0)).setCell (p := ⟨w.heap.size, 1, none⟩) (Nat.le_refl _) (.bool false)).setCell (p := ⟨w.heap.size, 2, none⟩) (Nat.le_refl _) (.slice none 0 0)).setCell (p := ⟨w.heap.size, 3, none⟩) (Nat.le_refl _) (.slice none 0 0)
  have r0 := k10.cell 0
  have r1 := k10.cell 1
  have r2 := k10.cell 2
  have r3 := k10.cell 3
  simp at r0 r1 r2 r3
  refine bodyPost_ret (v := .tuple #[.int .i64 1, .agg #[.int .i64 0, .bool false, .slice none 0 0, .slice none 0 0]]) ?_ rfl ⟨rfl, hB10⟩
  rw [results_tmp_cell rfl]
  go_simp

set_option maxRecDepth 100000 in
set_option maxHeartbeats 1000000 in
theorem All_nil (w : World) : Calls Tryz.prog 16 #[.pointer none] w fun e w' => e = .returned (.func (.func 33) #[] #[.pointer (some ⟨w.heap.size, 0, none⟩)]) ∧ w' = w.alloc (.cells #[.pointer none] 25) := by
  go_enter Tryz.func16, Tryz.ntmps16
  go_wp2_with ((go_at_call 10; (with_reducible refine (Copy_nil _).mono ?_); rintro e2 w2 ⟨rfl, hq⟩; have hq2 := hq.symm; clear hq; subst hq2))
  go_ret
  exact ⟨rfl, rfl⟩

set_option maxRecDepth 100000 in
set_option maxHeartbeats 1000000 in
theorem SameNew_zero (g : Nat) (w : World) (hz : Blk w g 47 #[.map none]) (g2 b2 : Nat) (h2 : Blk w g2 47 #[.map (some b2)]) : Calls Tryz.prog 13 #[.pointer (some ⟨g, 0, none⟩), .pointer (some ⟨g2, 0, none⟩)] w fun e w' => e = .returned (.bool false) ∧ w' = w := by
  have c0 := hz.cell 0
  simp only [List.getElem?_toArray, List.getElem?_cons_zero] at c0
  go_enter Tryz.func13, Tryz.ntmps13
  go_wp2_with (first | (go_at_call 24; (with_reducible refine (there_zero g _ hz).mono ?_); rintro e2 w2 ⟨rfl, hq⟩; have hq2 := hq.symm; clear hq; subst hq2) | (go_at_call 24; (with_reducible refine (cli_there g2 b2 _ h2).mono ?_); rintro e2 w2 ⟨rfl, hq⟩; have hq2 := hq.symm; clear hq; subst hq2))
  go_ret
  exact ⟨rfl, rfl⟩

set_option maxRecDepth 100000 in
set_option maxHeartbeats 1000000 in
theorem Bytes_zero (g : Nat) (w : World) (hz : Blk w g 47 #[.map none]) : Calls Tryz.prog 18 #[.pointer (some ⟨g, 0, none⟩)] w fun e w' => e = .returned (.slice none 0 0) ∧ Below w.heap.size w w' := by
  have c0 := hz.cell 0
  simp only [List.getElem?_toArray, List.getElem?_cons_zero] at c0
  go_enter Tryz.func18, Tryz.ntmps18
  go_wp2_with ((go_at_call 24; (with_reducible refine (there_zero g _ (hz.alloc _)).mono ?_); rintro e2 w2 ⟨rfl, hq⟩; have hq2 := hq.symm; clear hq; subst hq2))
  go_ret
  exact ⟨rfl, (Below.refl w.heap.size w).alloc (Nat.le_refl _) (.cells #[.pointer (some ⟨g, 0, none⟩)] 25)⟩

set_option maxRecDepth 100000 in
set_option maxHeartbeats 1000000 in
theorem Ask_zero (g : Nat) (w : World) (hz : Blk w g 47 #[.map none]) : Calls Tryz.prog 15 #[.pointer (some ⟨g, 0, none⟩), .int .u64 1, .int .u64 1] w fun e w' => e = .returned (.tuple #[.int .i64 1, .agg #[.int .i64 0, .bool false, .slice none 0 0, .slice none 0 0]]) ∧ Below w.heap.size w w' := by
  have c0 := hz.cell 0
  simp only [List.getElem?_toArray, List.getElem?_cons_zero] at c0
  have hB0 := (Below.refl w.heap.size w).alloc (Nat.le_refl _) (.cells #[.int .i64 0, .bool false, .slice none 0 0, .slice none 0 0] 37)
  have hk0 := Blk.new w 37 #[.int .i64 0, .bool false, .slice none 0 0, .slice none 0 0]
  go_enter Tryz.func15, Tryz.ntmps15
  go_wp2_with ((go_at_call 11; (with_reducible refine (Latest_zero g _ (hz.alloc _)).mono ?_); rintro e3 w3 ⟨rfl, hb3⟩; have hB3 := hB0.trans (hb3.mono (by simp)); have k3 := hk0.below hb3 (by simp); have f0 := k3.frozen 0; have f1 := k3.frozen 1; have f2 := k3.frozen 2; have f3 := k3.frozen 3; have c0 := k3.cell 0; have c1 := k3.cell 1; have c2 := k3.cell 2; have c3 := k3.cell 3; simp at c0 c1 c2 c3))
  (try simp only [Exit.inBlock, Exit.then])
  have k10 := (((k3.set_ 0 (.int .i64 0)).set_ 1 (.bool false)).set_ 2 (.slice none 0 0)).set_ 3 (.slice none 0 0)
  have hB10 := (((hB3.setCell (p := ⟨w.heap.size, 0, none⟩) (Nat.le_refl _) (.int .i64 0)).setCell (p := ⟨w.heap.size, 1, none⟩) (Nat.le_refl _) (.bool false)).setCell (p := ⟨w.heap.size, 2, none⟩) (Nat.le_refl _) (.slice none 0 0)).setCell (p := ⟨w.heap.size, 3, none⟩) (Nat.le_refl _) (.slice none 0 0)
  have r0 := k10.cell 0
  have r1 := k10.cell 1
  have r2 := k10.cell 2
  have r3 := k10.cell 3
  simp at r0 r1 r2 r3
  refine bodyPost_ret (v := .tuple #[.int .i64 1, .agg #[.int .i64 0, .bool false, .slice none 0 0, .slice none 0 0]]) ?_ rfl ⟨rfl, hB10⟩
  rw [results_tmp_cell rfl]
  go_simp

set_option maxRecDepth 100000 in
set_option maxHeartbeats 1000000 in
theorem All_zero (g : Nat) (w : World) (hz : Blk w g 47 #[.map none]) : Calls Tryz.prog 16 #[.pointer (some ⟨g, 0, none⟩)] w fun e w' => e = .returned (.func (.func 33) #[] #[.pointer (some ⟨w.heap.size, 0, none⟩)]) ∧ w' = w.alloc (.cells #[.pointer none] 25) := by
  have c0 := hz.cell 0
  simp only [List.getElem?_toArray, List.getElem?_cons_zero] at c0
  go_enter Tryz.func16, Tryz.ntmps16
  go_wp2_with ((go_at_call 10; (with_reducible refine (Copy_zero g _ hz).mono ?_); rintro e2 w2 ⟨rfl, hq⟩; have hq2 := hq.symm; clear hq; subst hq2))
  go_ret
  exact ⟨rfl, rfl⟩

end Go.Proofs.YtenjdidjjggefaaGreat
