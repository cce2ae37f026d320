import Derived.Test.YtenjdidjjggefaaGreatCliP
import Derived.Shelf.SlMaps.Clone
namespace Go.Proofs.YtenjdidjjggefaaGreat
open Go.RowKit Go.Shelf Go.Sort Go.Maps

set_option maxRecDepth 100000 in
set_option maxHeartbeats 2000000 in
theorem maps_clone (b : Nat) (es : Array MapEntry) (clock : Nat) (w : World) (hb : w.heap[b]? = some (.map es clock)) :
    Calls Tryz.prog 25 #[.map (some b)] w fun e w' => e = .returned (.map (some w.heap.size)) ∧ w' = w.alloc (.map es clock) := by
  have hq := fun w => Go.Proofs.run_eql_map_nil_sl (P := Tryz.prog) w 45 _ _ (some b) Tryz.underlying45
  go_enter Tryz.func25, Tryz.ntmps25
  go_wp2
  rw [run_callFunc_extern Tryz.func45 (by kernel_rfl) (by kernel_rfl) (by kernel_rfl) (e := Extern.MapsClone.clone) (by kernel_rfl), Go.Proofs.run_maps_clone_sl w 45 hb]
  simp only [Result.andThen]
  rw [Oper.upon_value]
  go_wp2
  rw [Go.Proofs.run_typeAssert_map_sl _ 45 20 _ _ _ Tryz.underlying45]
  simp only [Result.andThen]
  rw [Oper.upon_value]
  go_wp2
  go_ret
  exact ⟨rfl, rfl⟩

theorem Tbl.lt {w : World} {g b : Nat} {F : Nat → Prop} {L : List RowT} (h : Tbl w g b F L) : Tbl w g b (fun k => F k ∧ k < w.heap.size) L :=
  h.more (fun _ h1 h2 => ⟨h2, h1⟩) (fun h1 => h.2.1 h1.1) (fun h1 => h.2.2.1 h1.1)

set_option maxRecDepth 100000 in
set_option maxHeartbeats 1000000 in
theorem cli_Copy (g b : Nat) (F : Nat → Prop) (L : List RowT) (w : World) (ht : Tbl w g b F L) :
    Calls Tryz.prog 10 #[.pointer (some ⟨g, 0, none⟩)] w fun e w' =>
      e = .returned (.pointer (some ⟨w.heap.size + 1, 0, none⟩)) ∧ Tbl w' (w.heap.size + 1) w.heap.size (fun k => F k ∧ k < w.heap.size) L ∧ Below w.heap.size w w' ∧ w'.heap.size = w.heap.size + 2 := by
  obtain ⟨hb, _, _, _, n, D, ⟨es, clock, hh, hfit, hes, hD⟩, h6, h7, h8, h9⟩ := ht
  have h0 := hb.cell 0
  simp only [List.getElem?_toArray, List.getElem?_cons_zero] at h0
  have HR := Lib.hid h9
  clear h9
  have HD := Lib.hid hD
  clear hD
  go_enter Tryz.func10, Tryz.ntmps10
  go_wp2_with (first
    | (go_at_call 24; (with_reducible refine (cli_there g b _ hb).mono ?_); rintro e2 w2 ⟨rfl, hq⟩; have hq2 := hq.symm; clear hq; subst hq2)
    | (go_at_call 25; (with_reducible refine (maps_clone b es clock _ hh).mono ?_); rintro e3 w3 ⟨rfl, hq⟩; have hq3 := hq; clear hq; subst hq3))
  go_ret
  have hb1 := Blk.new (w.alloc (.map es clock)) 47 #[.map (some w.heap.size)]
  simp only [World.size_alloc] at hb1
  have hBl := ((Below.refl w.heap.size w).alloc (Nat.le_refl _) (.map es clock)).alloc (by simp) (.cells #[.map (some w.heap.size)] 47)
  refine ⟨rfl, ⟨hb1, fun h => by omega, fun h => by omega, by omega, n, D, ?_, h6, h7, h8, fun c hc => ?_⟩, hBl, by simp⟩
  · have : (w.alloc (.map es clock)).ownsMap Tryz.prog 30 RV w.heap.size n D := ⟨es, clock, (MapKept.heap_alloc w _).1, hfit, hes, HD.out⟩
    exact this.alloc _
  · have := HR.out c hc
    split at this
    · exact this
    · obtain ⟨q1, A, m, k, q2, q3, q4⟩ := this
      exact ⟨q1, A, m, k, q2, (q3.lt).below hBl (fun k _ hk => hk.2), q4⟩

end Go.Proofs.YtenjdidjjggefaaGreat
