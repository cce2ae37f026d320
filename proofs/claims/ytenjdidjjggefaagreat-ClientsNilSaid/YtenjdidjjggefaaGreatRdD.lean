import Derived.Test.YtenjdidjjggefaaGreatRdC
namespace Go.Proofs.YtenjdidjjggefaaGreat
open Go.RowKit Go.Shelf Go.Sort

/-- what Read answers -/
def ReadSays (l : List UInt8) (w : World) (e : Ending) (w' : World) : Prop :=
  ∃ g, e = .returned (.pointer (some ⟨g, 0, none⟩)) ∧ w.heap.size ≤ g ∧ Rdr w' g (fun k => w.heap.size ≤ k ∧ k < g) false l ∧ Below w.heap.size w w'

set_option maxRecDepth 100000 in
set_option maxHeartbeats 1000000 in
theorem rdr_Read (A : Option Addr) (n c : Nat) (l : List UInt8) (G : Nat → Prop) (w : World) (hr : Rd w G A n 1 (bV l)) (hn : n ≤ 1099511627776) :
    Calls Tryz.prog 48 #[.slice A n c] w (ReadSays l w) := by
  go_enter Tryz.func48, Tryz.ntmps48
  go_wp2_with (go_at_call 74; (with_reducible refine (clone_bytes A n c l G _ hr hn).mono ?_); rintro e' w1 ⟨v, rfl, ho, hb1⟩; obtain ⟨vA, vc, rfl, hvc, _⟩ := own_form ho)
  go_ret
  have hr1 := Rd.of_own (G := fun k => w.heap.size ≤ k ∧ k < w1.heap.size) ho (fun k hk => ho.lt k hk)
  refine ⟨w1.heap.size, rfl, hb1.size, ⟨_, _, _, Blk.new _ _ _, ?_, hvc, hn, by simp⟩, hb1.alloc hb1.size _⟩
  exact hr1.alloc _

/-- List where no value stands -/
def ListSays (g : Nat) (G : Nat → Prop) (z : Bool × (Bool × List UInt8)) (w : World) (e : Ending) (w' : World) : Prop :=
  e = .returned (.bool z.1) ∧ Rdr w' g G z.2.1 z.2.2 ∧ Chg (· = g) w w'

set_option maxRecDepth 100000 in
set_option maxHeartbeats 1000000 in
theorem rdr_List0 (g : Nat) (G : Nat → Prop) (bad : Bool) (l : List UInt8) (tag : UInt8) (f : Value) (w : World) (hr : Rdr w g G bad l) (s : Bool × List UInt8) (hz : takeZ (bad, l) tag = (some [], s)) :
    Calls Tryz.prog 51 #[.pointer (some ⟨g, 0, none⟩), .int .u8 (tag.toNat : Int), f] w (ListSays g G (true, s) w) := by
  have HT := rdr_take g G bad l tag w hr
  rw [hz] at HT
  have HT' := Lib.hid HT
  clear HT hz
  go_enter Tryz.func51, Tryz.ntmps51
  go_wp2_with (go_at_call 77; (with_reducible refine HT'.out.mono ?_); rintro e' w1 ⟨hres, hR, hC⟩; obtain ⟨A', hres2, hrd⟩ := hres; subst hres2; dsimp only [List.length_nil] at hrd ⊢)
  refine wp_loop_once ?_
  go_wp2
  go_ret
  have hs := hC.size
  refine ⟨rfl, hR.chg ((Chg.refl (fun _ => False) w1).alloc _) (fun h => h) (fun _ _ _ h => h), hC.alloc _⟩

end Go.Proofs.YtenjdidjjggefaaGreat
