import Derived.Test.YtenjdidjjggefaaGreatCliE
import Derived.Test.YtenjdidjjggefaaGreatShelf
import Derived.Maps.RangeWalk
namespace Go.Proofs.YtenjdidjjggefaaGreat
open Go.RowKit Go.Shelf Go.Sort Go.Maps

theorem bytesOf_map (l : List UInt8) : Lib.bytesOf (l.map fun u => (u.toNat : Int)) = l := by
  rw [Lib.bytesOf, List.map_map]
  conv => rhs; rw [← List.map_id l]
  refine List.map_congr_left fun x _ => ?_
  simp

theorem bytes_in {w : World} {F : Nat → Prop} {A : Option Addr} {m : Nat} {l : List UInt8} (h : Rd w F A m 1 (bV l)) : Lib.BytesIn w A m (l.map fun u => (u.toNat : Int)) := by
  intro hm
  obtain ⟨b, off, e, _, _, hc⟩ := h.2 hm
  have hl : l.length = m := by have := h.1; simp at this; omega
  refine ⟨b, off, e, fun i hi => ?_⟩
  have hi' : i < l.length := by omega
  have := hc i (.int .u8 (l[i].toNat : Int)) (by rw [bV_getElem?, List.getElem?_eq_getElem hi']; rfl)
  rw [this]
  simp [List.getD, hi']

set_option maxRecDepth 100000 in
set_option maxHeartbeats 1000000 in
theorem same1 (F : Nat → Prop) (n1 n2 : Nat) (A B : Option Addr) (m k m' k' : Nat) (l1 l2 : List UInt8) (w : World) (h1 : Rd w F A m 1 (bV l1)) (h2 : Rd w F B m' 1 (bV l2)) :
    Calls Tryz.prog 28 #[told n1 A m k, told n2 B m' k'] w fun e w' => e = .returned (.bool (decide ((n1, l1) = (n2, l2)))) ∧ Below w.heap.size w w' := by
  have hB := ((Below.refl w.heap.size w).alloc (Nat.le_refl _) (.cells #[.int .u64 (n1 : Int), .slice A m k] 74)).alloc (by simp) (.cells #[.int .u64 (n2 : Int), .slice B m' k'] 74)
  have q1 := bytes_in ((h1.alloc (.cells #[.int .u64 (n1 : Int), .slice A m k] 74)).alloc (.cells #[.int .u64 (n2 : Int), .slice B m' k'] 74))
  have q2 := bytes_in ((h2.alloc (.cells #[.int .u64 (n1 : Int), .slice A m k] 74)).alloc (.cells #[.int .u64 (n2 : Int), .slice B m' k'] 74))
  have e1 : l1.length = m := by have := h1.1; simp at this; omega
  have e2 : l2.length = m' := by have := h2.1; simp at this; omega
  have HC := Lib.hid (Tryz.bytes_Equal_all A B m k m' k' _ _ _ (by simpa using e1) (by simpa using e2) q1 q2)
  rw [bytesOf_map, bytesOf_map] at HC
  by_cases hn : n1 = n2
  · subst hn
    have hd : decide ((n1, l1) = (n1, l2)) = (l1 == l2) := by
      by_cases h : l1 = l2 <;> simp [h]
    have HD := Lib.hid hd
    clear hd q1 q2 e1 e2
    unfold told
    go_enter Tryz.func28, Tryz.ntmps28
    go_wp2_with (go_at_call 29; (with_reducible refine HC.out.mono ?_); rintro e' w' ⟨rfl, hq⟩; subst hq)
    go_ret
    exact ⟨by rw [HD.out]; rfl, hB⟩
  · have hd : decide ((n1, l1) = (n2, l2)) = false := by simp [hn]
    have hne : ((n1 : Int) == (n2 : Int)) = false := by simp only [beq_eq_false_iff_ne, ne_eq]; omega
    have HD := Lib.hid hd
    clear hd q1 q2 e1 e2
    unfold told
    go_enter Tryz.func28, Tryz.ntmps28
    go_wp2
    go_ret
    exact ⟨by rw [HD.out]; rfl, hB⟩

end Go.Proofs.YtenjdidjjggefaaGreat
