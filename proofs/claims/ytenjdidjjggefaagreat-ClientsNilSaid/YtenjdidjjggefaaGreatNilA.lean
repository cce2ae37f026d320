import Derived.Test.YtenjdidjjggefaaGreatCliI
namespace Go.Proofs.YtenjdidjjggefaaGreat
open Go.RowKit Go.Shelf Go.Sort Go.Maps

theorem Tbl.below {w w' : World} {g b : Nat} {F : Nat → Prop} {L : List RowT} (h : Tbl w g b F L) (hB : Below w.heap.size w w') : Tbl w' g b F L :=
  h.chg (Chg.of_below' hB (fun _ => False)) (fun h => h) (fun h => h) (fun _ _ _ h => h)

theorem put_eight : putT [] 7 3 ⟨8, false, [], []⟩ = (0, [(7, 3, eightL)]) := by
  rw [putT, if_neg (by rw [eight_may]; simp)]
  rfl
theorem get_eight : getT [(7, 3, eightL)] 7 = some (3, eightL) := rfl

/-- what holds of the table that 'known' has made -/
structure KnownT (g b : Nat) (F : Nat → Prop) (w w' : World) : Prop where
  tb : Tbl w' g b F [(7, 3, eightL)]
  be : Below w.heap.size w w'
theorem KnownT.go {g b : Nat} {F : Nat → Prop} {w w1 w2 : World} (h : KnownT g b F w w1) (hB : Below w1.heap.size w1 w2) : KnownT g b F w w2 :=
  ⟨h.tb.below hB, h.be.trans (hB.mono h.be.size)⟩

theorem put_known (g b : Nat) (w : World) (ht : Tbl w g b (fun _ => False) []) :
    Calls Tryz.prog 12 #[.pointer (some ⟨g, 0, none⟩), .int .u64 7, .int .u64 3, .agg #[.int .i64 8, .bool false, .slice none 0 0, .slice none 0 0]] w
      fun e w' => e = .returned (.int .i64 0) ∧ Tbl w' g b (fun k => False ∨ (w.heap.size ≤ k ∧ k < w'.heap.size)) [(7, 3, eightL)] ∧ Chg (· = b) w w' := by
  refine (cli_Put g b _ [] 7 3 (by omega) (by omega) 8 false [] [] none none 0 0 0 0 (fun _ => True) w ht (by simp [Srt]) (RE.none_ _ _ _) (Rd.none_ _ _ _ _) (by omega) (by omega)).mono ?_
  rintro e w' ⟨rfl, h1, h2⟩
  rw [put_eight] at h1 ⊢
  exact ⟨rfl, h1, h2⟩
theorem ask_known2 (g b : Nat) (F : Nat → Prop) (w : World) (ht : Tbl w g b F [(7, 3, eightL)]) :
    Calls Tryz.prog 15 #[.pointer (some ⟨g, 0, none⟩), .int .u64 7, .int .u64 2] w fun e w' => e = .returned (.tuple #[.int .i64 3, .agg #[.int .i64 0, .bool false, .slice none 0 0, .slice none 0 0]]) ∧ Below w.heap.size w w' :=
  ask_old g b F _ 7 2 3 eightL (by omega) w ht get_eight (by omega)
theorem ask_known3 (g b : Nat) (F : Nat → Prop) (w : World) (ht : Tbl w g b F [(7, 3, eightL)]) :
    Calls Tryz.prog 15 #[.pointer (some ⟨g, 0, none⟩), .int .u64 7, .int .u64 3] w fun e w' => (∃ A', e = .returned (.tuple #[.int .i64 2, .agg #[.int .i64 8, .bool false, .slice none 0 0, .slice A' 0 0]])) ∧ Below w.heap.size w w' :=
  ask_eight g b F _ 7 3 (by omega) w ht get_eight
theorem ask_known4 (g b : Nat) (F : Nat → Prop) (w : World) (ht : Tbl w g b F [(7, 3, eightL)]) :
    Calls Tryz.prog 15 #[.pointer (some ⟨g, 0, none⟩), .int .u64 7, .int .u64 4] w fun e w' => e = .returned (.tuple #[.int .i64 1, .agg #[.int .i64 0, .bool false, .slice none 0 0, .slice none 0 0]]) ∧ Below w.heap.size w w' :=
  ask_new g b F _ 7 4 (by omega) w ht (by intro old l h; rw [get_eight] at h; cases h; omega)

set_option maxRecDepth 100000 in
set_option maxHeartbeats 2000000 in
theorem law_known (w : World) : Calls Tryz.prog 8 #[] w fun e w' => e = .returned (.bool true) ∧ Below w.heap.size w w' := by
  go_enter Tryz.func8, Tryz.ntmps8
  go_wp2_with (first
    | (go_at_call 19; (with_reducible refine (cli_New _).mono ?_); rintro e1 w1 ⟨rfl, ht1, hb1, hz1⟩; have HZ := Lib.hid hz1; clear hz1)
    | (go_at_call 12; (with_reducible refine (put_known _ _ _ ht1).mono ?_); rintro e2 w2 ⟨rfl, ht2, hc2⟩; have K2 : KnownT _ _ _ w w2 := ⟨ht2, hb1.trans (hc2.below hb1.size (fun k hk h => by omega))⟩)
    | (go_at_call 15; (with_reducible refine (ask_known3 _ _ _ _ K2.tb).mono ?_); rintro e3 w3 ⟨⟨A', rfl⟩, hb3⟩; have K3 := K2.go hb3; have K4 := K3.go ((Below.refl w3.heap.size w3).alloc (Nat.le_refl _) (.cells #[.int .i64 8, .bool false, .slice none 0 0, .slice A' 0 0] 37)); have x4 := Blk.new w3 37 #[.int .i64 8, .bool false, .slice none 0 0, .slice A' 0 0])
    | (go_at_call 15; (with_reducible refine (ask_known2 _ _ _ _ K4.tb).mono ?_); rintro e5 w5 ⟨rfl, hb5⟩; have K6 := (K4.go hb5).go ((Below.refl w5.heap.size w5).alloc (Nat.le_refl _) (.cells #[.int .i64 0, .bool false, .slice none 0 0, .slice none 0 0] 37)); have x6 := (x4.below hb5 x4.lt).alloc (.cells #[.int .i64 0, .bool false, .slice none 0 0, .slice none 0 0] 37))
    | (go_at_call 15; (with_reducible refine (ask_known4 _ _ _ _ K6.tb).mono ?_); rintro e7 w7 ⟨rfl, hb7⟩; have K8 := (K6.go hb7).go ((Below.refl w7.heap.size w7).alloc (Nat.le_refl _) (.cells #[.int .i64 0, .bool false, .slice none 0 0, .slice none 0 0] 37)); have x8 := (x6.below hb7 x6.lt).alloc (.cells #[.int .i64 0, .bool false, .slice none 0 0, .slice none 0 0] 37); have c8 := x8.cell 0; simp at c8))
  go_ret
  exact ⟨rfl, K8.be⟩

end Go.Proofs.YtenjdidjjggefaaGreat
