import Derived.Test.YtenjdidjjggefaaGreatCliC
namespace Go.Proofs.YtenjdidjjggefaaGreat
open Go.RowKit Go.Shelf Go.Sort Go.Maps

theorem results_tmp_cell {fn : Func} {p u : Tmp} {ty : TypeId} (h : fn.results = #[.tmp u, .cell p ty]) (tmps : Array Value) (P : Program) (w : World) :
    (results fn tmps).run P w =
      ((asAddr (tmps.getD p undef)).run P w).andThen fun a w₁ => ((loadVar ty a).run P w₁).andThen fun v w₂ => .ok (.tuple #[tmps.getD u undef, v]) w₂ := by
  simp only [results, h]
  simp [Sem.run_bind, Result.andThen]

def noRes : Value := .agg #[.int .i64 0, .bool false, .slice none 0 0, .slice none 0 0]

set_option maxRecDepth 100000 in
set_option maxHeartbeats 1000000 in
theorem ask_new (g b : Nat) (F : Nat → Prop) (L : List RowT) (cl num : Nat) (hcl : cl < 18446744073709551616) (w : World) (ht : Tbl w g b F L) (hn : ∀ old l, getT L cl = some (old, l) → old < num) :
    Calls Tryz.prog 15 #[.pointer (some ⟨g, 0, none⟩), .int .u64 (cl : Int), .int .u64 (num : Int)] w fun e w' => e = .returned (.tuple #[.int .i64 1, noRes]) ∧ Below w.heap.size w w' := by
  have hB0 := (Below.refl w.heap.size w).alloc (Nat.le_refl _) (.cells #[.int .i64 0, .bool false, .slice none 0 0, .slice none 0 0] 37)
  have hk0 := Blk.new w 37 #[.int .i64 0, .bool false, .slice none 0 0, .slice none 0 0]
  have ht0 := ht.chg (Chg.of_below' hB0 (fun _ => False)) (fun h => h) (fun h => h) (fun _ _ _ h => h)
  cases hg : getT L cl with
  | none =>
    have HG := Lib.hid hg
    clear hg hn
    go_enter Tryz.func15, Tryz.ntmps15
    go_wp2_with (first
      | (go_at_call 11; (with_reducible refine (cli_Latest g b F L cl hcl _ ht0).mono ?_); rintro e3 w3 ⟨rfl, hb3⟩; rw [HG.out]; dsimp only [Option.map_some, Option.map_none, Option.getD_some, Option.getD_none, Option.isSome_some, Option.isSome_none]; have hB3 := hB0.trans (hb3.mono (by simp)); have k3 := hk0.below hb3 (by simp); have f0 := k3.frozen 0; have f1 := k3.frozen 1; have f2 := k3.frozen 2; have f3 := k3.frozen 3; have c0 := k3.cell 0; have c1 := k3.cell 1; have c2 := k3.cell 2; have c3 := k3.cell 3; simp at c0 c1 c2 c3))
    (try simp only [Exit.inBlock, Exit.then])
    have k10 := (((k3.set_ 0 (.int .i64 0)).set_ 1 (.bool false)).set_ 2 (.slice none 0 0)).set_ 3 (.slice none 0 0)
    have hB10 := (((hB3.setCell (p := ⟨w.heap.size, 0, none⟩) (Nat.le_refl _) (.int .i64 0)).setCell (p := ⟨w.heap.size, 1, none⟩) (Nat.le_refl _) (.bool false)).setCell (p := ⟨w.heap.size, 2, none⟩) (Nat.le_refl _) (.slice none 0 0)).setCell (p := ⟨w.heap.size, 3, none⟩) (Nat.le_refl _) (.slice none 0 0)
    have r0 := k10.cell 0
    have r1 := k10.cell 1
    have r2 := k10.cell 2
    have r3 := k10.cell 3
    simp at r0 r1 r2 r3
    refine bodyPost_ret (v := .tuple #[.int .i64 1, noRes]) ?_ rfl ⟨rfl, hB10⟩
    rw [results_tmp_cell rfl]
    go_simp
    rfl
  | some x =>
    obtain ⟨old, l⟩ := x
    have hd : decide (old < num) = true := decide_eq_true (by have := hn old l hg; omega)
    have HG := Lib.hid hg
    clear hg hn
    go_enter Tryz.func15, Tryz.ntmps15
    go_wp2_with (first
      | (go_at_call 11; (with_reducible refine (cli_Latest g b F L cl hcl _ ht0).mono ?_); rintro e3 w3 ⟨rfl, hb3⟩; rw [HG.out]; dsimp only [Option.map_some, Option.map_none, Option.getD_some, Option.getD_none, Option.isSome_some, Option.isSome_none]; have hB3 := hB0.trans (hb3.mono (by simp)); have k3 := hk0.below hb3 (by simp); have f0 := k3.frozen 0; have f1 := k3.frozen 1; have f2 := k3.frozen 2; have f3 := k3.frozen 3; have c0 := k3.cell 0; have c1 := k3.cell 1; have c2 := k3.cell 2; have c3 := k3.cell 3; simp at c0 c1 c2 c3))
    (try simp only [Exit.inBlock, Exit.then])
    have k10 := (((k3.set_ 0 (.int .i64 0)).set_ 1 (.bool false)).set_ 2 (.slice none 0 0)).set_ 3 (.slice none 0 0)
    have hB10 := (((hB3.setCell (p := ⟨w.heap.size, 0, none⟩) (Nat.le_refl _) (.int .i64 0)).setCell (p := ⟨w.heap.size, 1, none⟩) (Nat.le_refl _) (.bool false)).setCell (p := ⟨w.heap.size, 2, none⟩) (Nat.le_refl _) (.slice none 0 0)).setCell (p := ⟨w.heap.size, 3, none⟩) (Nat.le_refl _) (.slice none 0 0)
    have r0 := k10.cell 0
    have r1 := k10.cell 1
    have r2 := k10.cell 2
    have r3 := k10.cell 3
    simp at r0 r1 r2 r3
    refine bodyPost_ret (v := .tuple #[.int .i64 1, noRes]) ?_ rfl ⟨rfl, hB10⟩
    rw [results_tmp_cell rfl]
    go_simp
    rfl

set_option maxRecDepth 100000 in
set_option maxHeartbeats 1000000 in
theorem ask_old (g b : Nat) (F : Nat → Prop) (L : List RowT) (cl num old : Nat) (l : List UInt8) (hcl : cl < 18446744073709551616) (w : World) (ht : Tbl w g b F L) (hg : getT L cl = some (old, l)) (hn : num < old) :
    Calls Tryz.prog 15 #[.pointer (some ⟨g, 0, none⟩), .int .u64 (cl : Int), .int .u64 (num : Int)] w fun e w' => e = .returned (.tuple #[.int .i64 3, noRes]) ∧ Below w.heap.size w w' := by
  have hB0 := (Below.refl w.heap.size w).alloc (Nat.le_refl _) (.cells #[.int .i64 0, .bool false, .slice none 0 0, .slice none 0 0] 37)
  have hk0 := Blk.new w 37 #[.int .i64 0, .bool false, .slice none 0 0, .slice none 0 0]
  have ht0 := ht.chg (Chg.of_below' hB0 (fun _ => False)) (fun h => h) (fun h => h) (fun _ _ _ h => h)
  have hd : decide (old < num) = false := decide_eq_false (by omega)
  have hd2 : decide (num < old) = true := decide_eq_true (by omega)
  have HG := Lib.hid hg
  clear hg
  go_enter Tryz.func15, Tryz.ntmps15
  go_wp2_with (first
    | (go_at_call 11; (with_reducible refine (cli_Latest g b F L cl hcl _ ht0).mono ?_); rintro e3 w3 ⟨rfl, hb3⟩; rw [HG.out]; dsimp only [Option.map_some, Option.map_none, Option.getD_some, Option.getD_none, Option.isSome_some, Option.isSome_none]; have hB3 := hB0.trans (hb3.mono (by simp)); have k3 := hk0.below hb3 (by simp); have f0 := k3.frozen 0; have f1 := k3.frozen 1; have f2 := k3.frozen 2; have f3 := k3.frozen 3; have c0 := k3.cell 0; have c1 := k3.cell 1; have c2 := k3.cell 2; have c3 := k3.cell 3; simp at c0 c1 c2 c3))
  (try simp only [Exit.inBlock, Exit.then])
  have k10 := (((k3.set_ 0 (.int .i64 0)).set_ 1 (.bool false)).set_ 2 (.slice none 0 0)).set_ 3 (.slice none 0 0)
  have hB10 := (((hB3.setCell (p := ⟨w.heap.size, 0, none⟩) (Nat.le_refl _) (.int .i64 0)).setCell (p := ⟨w.heap.size, 1, none⟩) (Nat.le_refl _) (.bool false)).setCell (p := ⟨w.heap.size, 2, none⟩) (Nat.le_refl _) (.slice none 0 0)).setCell (p := ⟨w.heap.size, 3, none⟩) (Nat.le_refl _) (.slice none 0 0)
  have r0 := k10.cell 0
  have r1 := k10.cell 1
  have r2 := k10.cell 2
  have r3 := k10.cell 3
  simp at r0 r1 r2 r3
  refine bodyPost_ret (v := .tuple #[.int .i64 3, noRes]) ?_ rfl ⟨rfl, hB10⟩
  rw [results_tmp_cell rfl]
  go_simp
  rfl

end Go.Proofs.YtenjdidjjggefaaGreat
