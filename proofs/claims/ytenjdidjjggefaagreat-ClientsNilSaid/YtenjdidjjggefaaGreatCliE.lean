import Derived.Test.YtenjdidjjggefaaGreatCliD
namespace Go.Proofs.YtenjdidjjggefaaGreat
open Go.RowKit Go.Shelf Go.Sort Go.Maps

theorem field_told (num : Nat) (A : Option Addr) (m k : Nat) (W : World) : (Instr.field 74 (.agg #[.int .u64 (num : Int), .slice A m k]) 1).run Tryz.prog W = .ok (.slice A m k) W := by kernel_rfl

set_option maxRecDepth 100000 in
set_option maxHeartbeats 1000000 in
theorem ask_eight (g b : Nat) (F : Nat → Prop) (L : List RowT) (cl num : Nat) (hcl : cl < 18446744073709551616) (w : World) (ht : Tbl w g b F L) (hg : getT L cl = some (num, eightL)) :
    Calls Tryz.prog 15 #[.pointer (some ⟨g, 0, none⟩), .int .u64 (cl : Int), .int .u64 (num : Int)] w fun e w' => (∃ A', e = .returned (.tuple #[.int .i64 2, .agg #[.int .i64 8, .bool false, .slice none 0 0, .slice A' 0 0]])) ∧ Below w.heap.size w w' := by
  have hB0 := (Below.refl w.heap.size w).alloc (Nat.le_refl _) (.cells #[.int .i64 0, .bool false, .slice none 0 0, .slice none 0 0] 37)
  have hk0 := Blk.new w 37 #[.int .i64 0, .bool false, .slice none 0 0, .slice none 0 0]
  have ht0 := ht.chg (Chg.of_below' hB0 (fun _ => False)) (fun h => h) (fun h => h) (fun _ _ _ h => h)
  have hd : decide (num < num) = false := decide_eq_false (by omega)
  have HG := Lib.hid hg
  clear hg
  go_enter Tryz.func15, Tryz.ntmps15
  go_wp2_with (first
    | (go_at_call 11; (with_reducible refine (cli_Latest g b F L cl hcl _ ht0).mono ?_); rintro e3 w3 ⟨rfl, hb3⟩; rw [HG.out]; dsimp only [Option.map_some, Option.map_none, Option.getD_some, Option.getD_none, Option.isSome_some, Option.isSome_none]; have hB3 := hB0.trans (hb3.mono (by simp)); have k3 := hk0.below hb3 (by simp); have t3 := ht0.chg (Chg.of_below' hb3 (fun _ => False)) (fun h => h) (fun h => h) (fun _ _ _ h => h); obtain ⟨kb3, _, _, _, n3, D3, o3, _, _, _, row3⟩ := t3; have g3 := kb3.cell 0; simp only [List.getElem?_toArray, List.getElem?_cons_zero] at g3; have row4 := row3 cl hcl; clear row3; rw [HG.out] at row4; obtain ⟨_, A, m, k, hat, hrd, hmk, hm⟩ := row4; have hlk := look_some o3 hcl hat false; simp only [Bool.false_eq_true, if_false, told] at hlk; clear hat; have hfd := fun W => field_told num A m k W)
    | (go_at_call 32; (with_reducible refine (result_of_eight A m k F _ hrd hm).mono ?_); rintro e4 w4 ⟨⟨A', rfl⟩, hb4⟩; have hB4 := hB3.trans (hb4.mono hB3.size); have k4 := k3.below hb4 k3.lt; have k5 := k4.alloc (.cells #[.int .i64 8, .bool false, .slice none 0 0, .slice A' 0 0] 37); have x5 := Blk.new w4 37 #[.int .i64 8, .bool false, .slice none 0 0, .slice A' 0 0]; have hB5 := hB4.alloc hB4.size (.cells #[.int .i64 8, .bool false, .slice none 0 0, .slice A' 0 0] 37); have f0 := k5.frozen 0; have f1 := k5.frozen 1; have f2 := k5.frozen 2; have f3 := k5.frozen 3; have c0 := k5.cell 0; have c1 := k5.cell 1; have c2 := k5.cell 2; have c3 := k5.cell 3; have d0 := x5.cell 0; have d1 := x5.cell 1; have d2 := x5.cell 2; have d3 := x5.cell 3; simp at c0 c1 c2 c3 d0 d1 d2 d3; have hne : w4.heap.size ≠ w.heap.size := (by have := k4.lt; omega)))
  go_region
  all_goals go_wp2
  (try simp only [Exit.inBlock, Exit.then])
  have k10 := ((((k5.set_ 0 (.int .i64 8)).set_ 1 (.bool false)).set_ 2 (.slice none 0 0)).set_ 3 (.slice A' 0 0)).drew
  have hB10 := ((((hB5.setCell (p := ⟨w.heap.size, 0, none⟩) (Nat.le_refl _) (.int .i64 8)).setCell (p := ⟨w.heap.size, 1, none⟩) (Nat.le_refl _) (.bool false)).setCell (p := ⟨w.heap.size, 2, none⟩) (Nat.le_refl _) (.slice none 0 0)).setCell (p := ⟨w.heap.size, 3, none⟩) (Nat.le_refl _) (.slice A' 0 0)).drew
  have r0 := k10.cell 0
  have r1 := k10.cell 1
  have r2 := k10.cell 2
  have r3 := k10.cell 3
  simp at r0 r1 r2 r3
  refine bodyPost_ret (v := .tuple #[.int .i64 2, .agg #[.int .i64 8, .bool false, .slice none 0 0, .slice A' 0 0]]) ?_ rfl ⟨⟨A', rfl⟩, hB10⟩
  rw [results_tmp_cell rfl]
  go_simp

end Go.Proofs.YtenjdidjjggefaaGreat
