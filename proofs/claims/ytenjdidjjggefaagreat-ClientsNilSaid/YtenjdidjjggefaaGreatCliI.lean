import Derived.Test.YtenjdidjjggefaaGreatCliH
namespace Go.Proofs.YtenjdidjjggefaaGreat
open Go.RowKit Go.Shelf Go.Sort Go.Maps

set_option maxRecDepth 100000 in
set_option maxHeartbeats 1000000 in
theorem cli_Same (g1 b1 g2 b2 : Nat) (F : Nat → Prop) (L1 L2 : List RowT) (w : World) (ht1 : Tbl w g1 b1 F L1) (ht2 : Tbl w g2 b2 F L2) (hs1 : Srt L1) (hs2 : Srt L2) (hbd : ∀ x ∈ L1, x.1 < 18446744073709551616) :
    Calls Tryz.prog 13 #[.pointer (some ⟨g1, 0, none⟩), .pointer (some ⟨g2, 0, none⟩)] w fun e w' => e = .returned (.bool (decide (L1 = L2))) ∧ Below w.heap.size w w' := by
  have k1 := ht1.1
  have k2 := ht2.1
  have c1 := k1.cell 0
  have c2 := k2.cell 0
  simp only [List.getElem?_toArray, List.getElem?_cons_zero] at c1 c2
  go_enter Tryz.func13, Tryz.ntmps13
  go_wp2_with (first
    | (go_at_call 24; (with_reducible refine (cli_there g1 b1 _ k1).mono ?_); rintro e2 w2 ⟨rfl, hq⟩; have hq2 := hq.symm; clear hq; subst hq2)
    | (go_at_call 24; (with_reducible refine (cli_there g2 b2 _ k2).mono ?_); rintro e2 w2 ⟨rfl, hq⟩; have hq2 := hq.symm; clear hq; subst hq2))
  go_region_held3 (fun w' => w'.cell? ⟨g1, 0, none⟩ = some (.map (some b1)) ∧ w'.cell? ⟨g2, 0, none⟩ = some (.map (some b2))) (go_keep) (first
    | (go_at_call 27; refine (equal_tables g1 b1 g2 b2 F L1 L2 _ (ht1.chg (((Chg.refl (fun _ => False) _)).drew) (fun h => h) (fun h => h) (fun _ _ _ h => h)) (ht2.chg (((Chg.refl (fun _ => False) _)).drew) (fun h => h) (fun h => h) (fun _ _ _ h => h)) hs1 hs2 hbd).mono ?_; rintro e3 w3 ⟨rfl, hb3⟩; have d1 := (k1.drew.below hb3 k1.lt).cell 0; have d2 := (k2.drew.below hb3 k2.lt).cell 0; simp only [List.getElem?_toArray, List.getElem?_cons_zero] at d1 d2))
  all_goals go_wp2
  all_goals go_ret
  all_goals exact ⟨rfl, (Below.refl w.heap.size w).drew.trans hb3⟩

end Go.Proofs.YtenjdidjjggefaaGreat
