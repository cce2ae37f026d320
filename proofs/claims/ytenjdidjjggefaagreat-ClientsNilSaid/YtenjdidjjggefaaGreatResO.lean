import Derived.Test.YtenjdidjjggefaaGreatRdD
import Derived.Laws.ResultCell
namespace Go.Proofs.YtenjdidjjggefaaGreat
open Go.RowKit Go.Shelf Go.Sort

/-- the bytes of the result that is the error 8 alone -/
def eightL : List UInt8 := (resZ ⟨8, false, [], []⟩).2
theorem eight_1 : smallZ (numZ (takeZ (false, eightL) 1)) = (8, (false, eightL.drop 13)) := by decide
theorem eight_2 : flagZ (takeZ (false, eightL.drop 13) 2) = (false, (false, eightL.drop 19)) := by decide
theorem eight_3 : takeZ (false, eightL.drop 19) 3 = (some [], (false, eightL.drop 24)) := by decide
theorem eight_4 : takeZ (false, eightL.drop 24) 4 = (some [], (false, [])) := by decide
theorem eight_may : mayResD ⟨8, false, [], []⟩ = true := by decide

set_option maxRecDepth 100000 in
set_option maxHeartbeats 1000000 in
theorem result_of_eight (A : Option Addr) (n c : Nat) (G : Nat → Prop) (w : World) (hr : Rd w G A n 1 (bV eightL)) (hn : n ≤ 1099511627776) :
    Calls Tryz.prog 32 #[.slice A n c] w fun e w' => (∃ A', e = .returned (.tuple #[.agg #[.int .i64 8, .bool false, .slice none 0 0, .slice A' 0 0], .int .i64 0])) ∧ Below w.heap.size w w' := by
  have hB0 := (Below.refl w.heap.size w).alloc (Nat.le_refl _) (.cells #[.int .i64 0, .bool false, .slice none 0 0, .slice none 0 0] 37)
  have hk0 := Blk.new w 37 #[.int .i64 0, .bool false, .slice none 0 0, .slice none 0 0]
  have hr0 := hr.alloc (.cells #[.int .i64 0, .bool false, .slice none 0 0, .slice none 0 0] 37)
  go_enter Tryz.func32, Tryz.ntmps32
  go_wp2_with (first
    | (go_at_call 48; (with_reducible refine (rdr_Read A n c _ _ _ hr0 hn).mono ?_); rintro e1 w1 ⟨g, rfl, hg, hR1, hb1⟩; have hg' : w.heap.size < g := (by have := hg; simp at this; omega); have hB1 := hB0.trans (hb1.mono (by simp)); have k1 := hk0.below hb1 (by simp))
    | (go_at_call 49; refine (msg_number g _ false _ 1 _ hR1).mono ?_; rintro e2 w2 ⟨rfl, hR2, hC2⟩; rw [eight_1] at hR2; dsimp only at hR2; rw [eight_1]; dsimp only; have hB2 := hB1.trans (hC2.below hB1.size (fun k hk h => by omega)); have k2 := k1.chg hC2 (by omega))
    | (go_at_call 50; refine (rdr_Flag g _ false _ 2 _ hR2).mono ?_; rintro e3 w3 ⟨rfl, hR3, hC3⟩; rw [eight_2] at hR3; dsimp only at hR3; rw [eight_2]; dsimp only; have hB3 := hB2.trans (hC3.below hB2.size (fun k hk h => by omega)); have k3 := k2.chg hC3 (by omega); have hB4 := hB3.alloc hB3.size (.cells #[.int .i64 8, .bool false, .slice none 0 0, .slice none 0 0] 37); have k4 := k3.alloc (.cells #[.int .i64 8, .bool false, .slice none 0 0, .slice none 0 0] 37); have x4 := Blk.new w3 37 #[.int .i64 8, .bool false, .slice none 0 0, .slice none 0 0]; have hR4 := hR3.chg ((Chg.refl (fun _ => False) w3).alloc (.cells #[.int .i64 8, .bool false, .slice none 0 0, .slice none 0 0] 37)) (fun h => h) (fun _ _ _ h => h))
    | (go_at_call 51; refine (rdr_List0 g _ false _ 3 _ _ hR4 _ eight_3).mono ?_; rintro e4 w5 ⟨rfl, hR5, hC5⟩; dsimp only at hR5; have hz5 := hC5.size; have hl5 : g < w3.heap.size := (by obtain ⟨_, _, _, q, _⟩ := hR3; exact q.lt); have x5 := x4.chg hC5 (by omega); have hB5 := hB4.trans (hC5.below hB4.size (fun k hk h => by omega)); have k5 := k4.chg hC5 (by omega))
    | (go_at_call 54; refine (rdr_Bytes g _ false _ 4 _ hR5).mono ?_; rintro e5 w6 ⟨⟨A', n', rfl, hrd⟩, hR6, hC6⟩; rw [eight_4] at hrd hR6; dsimp only at hR6; obtain rfl : n' = 0 := (by have := hrd.1; simp at this; omega); have x6 := x5.chg hC6 (by omega); have f6 := x6.frozen 3; have g6 := x6.cell 3; simp at g6; have hB6 := hB5.trans (hC6.below hB5.size (fun k hk h => by omega)); have k6 := k5.chg hC6 (by omega); have x7 := x6.set_ 3 (.slice A' 0 0); have hB7 := hB6.trans (((Chg.refl (fun k => k = w3.heap.size) w6).setCell (p := ⟨w3.heap.size, 3, none⟩) (.inl rfl) (.slice A' 0 0)).below hB6.size (fun k hk h => by have := hB3.size; omega)); have hR7 := hR6.chg ((Chg.refl (fun k => k = w3.heap.size) w6).setCell (p := ⟨w3.heap.size, 3, none⟩) (.inl rfl) (.slice A' 0 0)) (by omega) (fun k _ h1 h2 => by omega); have k7 := k6.far (p := ⟨w3.heap.size, 3, none⟩) (by have := hB3.size; simp; omega) (.slice A' 0 0))
    | (go_at_call 55; (with_reducible refine (rdr_End g _ false [] _ hR7).mono ?_); rintro e7 w8 ⟨rfl, hq⟩; rw [show endZ (false, []) = 0 from rfl]; have x8 := (show Blk w8 _ _ _ from hq ▸ x7); have k8 := (show Blk w8 _ _ _ from hq ▸ k7); have hB8 := (show Below _ _ w8 from hq ▸ hB7); clear hq; have y0 := x8.cell 0; have y1 := x8.cell 1; have y2 := x8.cell 2; have y3 := x8.cell 3; simp at y0 y1 y2 y3)
    | (go_at_call 46; refine (may_result 8 false [] [] none A' 0 0 0 0 (fun _ => True) _ (RE.none_ _ _ _) ⟨by simp, fun h => absurd h (by omega)⟩ (by omega) (by omega)).mono ?_; rintro e8 w9 ⟨rfl, hb9⟩; rw [eight_may]; have x9 := x8.below hb9 x8.lt; have k9 := k8.below hb9 k8.lt; have hB9 := hB8.trans (hb9.mono hB8.size); have z0 := x9.cell 0; have z1 := x9.cell 1; have z2 := x9.cell 2; have z3 := x9.cell 3; simp at z0 z1 z2 z3; have p0 := k9.cell 0; have p1 := k9.cell 1; have p2 := k9.cell 2; have p3 := k9.cell 3; simp at p0 p1 p2 p3; have q0 := k9.frozen 0; have q1 := k9.frozen 1; have q2 := k9.frozen 2; have q3 := k9.frozen 3))
  (try simp only [Exit.inBlock, Exit.then])
  have k10 := (((k9.set_ 0 (.int .i64 8)).set_ 1 (.bool false)).set_ 2 (.slice none 0 0)).set_ 3 (.slice A' 0 0)
  have hB10 := (((hB9.setCell (p := ⟨w.heap.size, 0, none⟩) (Nat.le_refl _) (.int .i64 8)).setCell (p := ⟨w.heap.size, 1, none⟩) (Nat.le_refl _) (.bool false)).setCell (p := ⟨w.heap.size, 2, none⟩) (Nat.le_refl _) (.slice none 0 0)).setCell (p := ⟨w.heap.size, 3, none⟩) (Nat.le_refl _) (.slice A' 0 0)
  have r0 := k10.cell 0
  have r1 := k10.cell 1
  have r2 := k10.cell 2
  have r3 := k10.cell 3
  simp at r0 r1 r2 r3
  refine bodyPost_ret (v := .tuple #[.agg #[.int .i64 8, .bool false, .slice none 0 0, .slice A' 0 0], .int .i64 0]) ?_ rfl ⟨⟨A', rfl⟩, hB10⟩
  rw [results_cell_tmp rfl]
  go_simp

end Go.Proofs.YtenjdidjjggefaaGreat
