import Derived.Test.YtenjdidjjggefaaGreatEntQ
namespace Go.Proofs.YtenjdidjjggefaaGreat
open Go.RowKit Go.Shelf Go.Sort

theorem same_to {α : Type} {l m : List α} (h : l.length = m.length) (hk : ∀ k, k < l.length → l[k]? = m[k]?) : l = m := by
  refine List.ext_getElem? fun i => ?_
  rcases Nat.lt_or_ge i l.length with h1 | h1
  · exact hk i h1
  · rw [List.getElem?_eq_none h1, List.getElem?_eq_none (by omega)]

theorem upto_next {p : Nat → Prop} {j : Nat} (h1 : ∀ k, k < j → p k) (h2 : p j) : ∀ k, k < j + 1 → p k := by
  intro k hk
  rcases Nat.lt_or_ge k j with h | h
  · exact h1 k h
  · obtain rfl : k = j := by omega
    exact h2

theorem Rd.at1 {w : World} {G : Nat → Prop} {A : Option Addr} {n : Nat} {l : List UInt8} (h : Rd w G A n 1 (bV l)) {j : Nat} (hj : j < n) :
    ∃ b off x, A = some ⟨b, off, none⟩ ∧ l[j]? = some x ∧ w.cell? ⟨b, off + j, none⟩ = some (.int .u8 (x.toNat : Int)) := by
  obtain ⟨b, off, e, _, _, hc⟩ := h.2 (by omega)
  have hl : l.length = n := by have := h.1; simp at this; omega
  have hx : l[j]? = some (l[j]'(by omega)) := List.getElem?_eq_getElem (by omega)
  exact ⟨b, off, _, e, hx, hc _ _ (by rw [bV_getElem?, hx]; rfl)⟩

set_option maxRecDepth 100000 in
set_option maxHeartbeats 1000000 in
theorem eq_bytes (A B : Option Addr) (n c m k : Nat) (l1 l2 : List UInt8) (G : Nat → Prop) (w : World) (hr1 : Rd w G A n 1 (bV l1)) (hr2 : Rd w G B m 1 (bV l2)) (hn : n ≤ 1048576) :
    Calls Tryz.prog 88 #[.slice A n c, .slice B m k] w fun e w' => e = .returned (.bool (decide (l1 = l2))) ∧ Below w.heap.size w w' := by
  have e1 : l1.length = n := by have := hr1.1; simp at this; omega
  have e2 : l2.length = m := by have := hr2.1; simp at this; omega
  by_cases hnm : n = m
  · subst hnm
    have hmx : Tryz.prog.follows .mixedOrders = true := by kernel_rfl
    have E1 := Lib.hid e1
    have E2 := Lib.hid e2
    clear e1 e2
    have hc0 : ((n : Int) != (n : Int)) = false := by simp
    go_enter Tryz.func88, Tryz.ntmps88
    go_wp2
    go_loopw [13] (fun k wr => ∃ j : Nat, k = .int .i64 j ∧ j ≤ n ∧ Hid (∀ i, i < j → l1[i]? = l2[i]?) ∧ Below w.heap.size w wr) (fun k _ => n - (intOf k).toNat)
    case atStart => exact ⟨0, rfl, by omega, fun k h => absurd h (by omega), Below.refl _ _⟩
    case round =>
      obtain ⟨j, rfl, hj, hok, hB⟩ := hrel
      by_cases hlt : j < n
      · obtain ⟨b, off, x, rfl, hx, d0⟩ := (hr1.below hB (fun k hk _ => hk)).at1 hlt
        obtain ⟨b', off', y, rfl, hy, d1⟩ := (hr2.below hB (fun k hk _ => hk)).at1 hlt
        have HXY : Hid (l1[j]? = some x ∧ l2[j]? = some y) := ⟨hx, hy⟩
        clear hx hy
        by_cases hxy : x = y
        · subst hxy
          have hc1 : ((x.toNat : Int) != (x.toNat : Int)) = false := by simp
          go_wp2
          go_quiet (fail)
          go_wp2
          go_roundw
          case rel => exact ⟨j + 1, by go_num, by omega, upto_next hok.out (by rw [HXY.out.1, HXY.out.2]), below_drewN hB _⟩
          case measure => simp [intOf]; omega
        · have hc1 : ((x.toNat : Int) != (y.toNat : Int)) = true := by
            simp only [bne_iff_ne, ne_eq]
            intro h
            exact hxy (UInt8.toNat_inj.1 (by omega))
          have hres : decide (l1 = l2) = false := decide_eq_false fun h => hxy (by have := HXY.out; rw [h] at this; exact Option.some.inj (this.1.symm.trans this.2))
          have HR := Lib.hid hres
          clear hres hxy
          go_wp2
          go_quiet (fail)
          go_wp2
          go_ret
          exact ⟨by rw [HR.out]; rfl, below_drewN hB _⟩
      · obtain rfl : j = n := by omega
        have hres : decide (l1 = l2) = true := decide_eq_true (same_to (by rw [E1.out, E2.out]) (by rw [E1.out]; exact hok.out))
        have HR := Lib.hid hres
        clear hres
        go_wp2
        go_ret
        exact ⟨by rw [HR.out]; rfl, hB⟩
  · have hc0 : ((n : Int) != (m : Int)) = true := by simp only [bne_iff_ne, ne_eq]; omega
    have hres : decide (l1 = l2) = false := decide_eq_false fun h => hnm (by rw [← e1, ← e2, h])
    have HR := Lib.hid hres
    clear e1 e2 hres hnm
    go_enter Tryz.func88, Tryz.ntmps88
    go_wp2
    go_ret
    exact ⟨by rw [HR.out]; rfl, Below.refl _ _⟩

end Go.Proofs.YtenjdidjjggefaaGreat
