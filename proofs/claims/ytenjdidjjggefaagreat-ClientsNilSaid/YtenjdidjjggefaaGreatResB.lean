import Derived.Test.YtenjdidjjggefaaGreatResA
import Derived.Laws.StructEq
namespace Go.Proofs.YtenjdidjjggefaaGreat
open Go.RowKit Go.Shelf Go.Sort

theorem toList_beq (a b : ByteArray) : (a.toList == b.toList) = decide (a = b) := by
  rw [ByteArray.toList_eq, ByteArray.toList_eq]
  by_cases h : a = b
  · subst h; simp
  · rw [decide_eq_false h]
    obtain ⟨⟨x⟩⟩ := a
    obtain ⟨⟨y⟩⟩ := b
    simpa using h

theorem neq_attr (a b : AttrD) (W : World) : (binOp .neq 144 (.agg #[.string a.1, .string a.2]) (.agg #[.string b.1, .string b.2])).run Tryz.prog W = .ok (.bool (!decide (a = b))) W := by
  have h : decide (a = b) = (a.1.toList == b.1.toList && a.2.toList == b.2.toList) := by
    rw [toList_beq, toList_beq, ← Bool.decide_and]
    exact decide_eq_decide.2 Prod.ext_iff
  rw [h]
  cases h1 : a.1.toList == b.1.toList <;> cases h2 : a.2.toList == b.2.toList
  all_goals go_simp

theorem neq_attr_same (a : AttrD) (W : World) : (binOp .neq 144 (.agg #[.string a.1, .string a.2]) (.agg #[.string a.1, .string a.2])).run Tryz.prog W = .ok (.bool false) W := by
  rw [neq_attr, decide_eq_true rfl]; rfl
theorem neq_attr_ne {a b : AttrD} (h : ¬ a = b) (W : World) : (binOp .neq 144 (.agg #[.string a.1, .string a.2]) (.agg #[.string b.1, .string b.2])).run Tryz.prog W = .ok (.bool true) W := by
  rw [neq_attr, decide_eq_false h]; rfl

theorem Rd.at2x {w : World} {G : Nat → Prop} {A : Option Addr} {n : Nat} {l : List AttrD} (h : Rd w G A n 2 (attrCells l)) {j : Nat} (hj : j < n) :
    ∃ b off x, A = some ⟨b, off, none⟩ ∧ l[j]? = some x ∧ w.cell? ⟨b, off + j * 2, none⟩ = some (.string x.1) ∧ w.cell? ⟨b, off + j * 2 + 1, none⟩ = some (.string x.2) := by
  obtain ⟨b, off, e, _, _, hc⟩ := h.2 (by omega)
  have hl : l.length = n := by have := h.1; simp at this; omega
  have hj' : j < l.length := by omega
  exact ⟨b, off, l[j], e, List.getElem?_eq_getElem hj', hc _ _ (attrCells_get l j hj').1, by rw [Nat.add_assoc]; exact hc _ _ (attrCells_get l j hj').2⟩

set_option maxRecDepth 100000 in
set_option maxHeartbeats 1000000 in
theorem eq_attrs (A B : Option Addr) (n c m k : Nat) (l1 l2 : List AttrD) (G : Nat → Prop) (w : World) (hr1 : Rd w G A n 2 (attrCells l1)) (hr2 : Rd w G B m 2 (attrCells l2)) (hn : n ≤ 1048576) :
    Calls Tryz.prog 112 #[.slice A n c, .slice B m k] w fun e w' => e = .returned (.bool (decide (l1 = l2))) ∧ Below w.heap.size w w' := by
  have e1 : l1.length = n := by have := hr1.1; simp at this; omega
  have e2 : l2.length = m := by have := hr2.1; simp at this; omega
  by_cases hnm : n = m
  · subst hnm
    have hmx : Tryz.prog.follows .mixedOrders = true := by kernel_rfl
    have E1 := Lib.hid e1
    have E2 := Lib.hid e2
    clear e1 e2
    have hc0 : ((n : Int) != (n : Int)) = false := by simp
    go_enter Tryz.func112, Tryz.ntmps112
    go_wp2
    go_loopw [13] (fun k wr => ∃ j : Nat, k = .int .i64 j ∧ j ≤ n ∧ Hid (∀ i, i < j → l1[i]? = l2[i]?) ∧ Below w.heap.size w wr) (fun k _ => n - (intOf k).toNat)
    case atStart => exact ⟨0, rfl, by omega, fun k h => absurd h (by omega), Below.refl _ _⟩
    case round =>
      obtain ⟨j, rfl, hj, hok, hB⟩ := hrel
      by_cases hlt : j < n
      · obtain ⟨b, off, x, rfl, hx, d0, d0'⟩ := (hr1.below hB (fun k hk _ => hk)).at2x hlt
        obtain ⟨b', off', y, rfl, hy, d1, d1'⟩ := (hr2.below hB (fun k hk _ => hk)).at2x hlt
        have HXY : Hid (l1[j]? = some x ∧ l2[j]? = some y) := ⟨hx, hy⟩
        clear hx hy
        by_cases hxy : x = y
        · subst hxy
          have hc1 := neq_attr_same x
          go_wp2
          go_quiet (fail)
          go_wp2
          go_roundw
          case rel => exact ⟨j + 1, by go_num, by omega, upto_next hok.out (by rw [HXY.out.1, HXY.out.2]), below_drewN hB _⟩
          case measure => simp [intOf]; omega
        · have hc1 := neq_attr_ne hxy
          have hres : decide (l1 = l2) = false := decide_eq_false fun h => hxy (by have := HXY.out; rw [h] at this; exact Option.some.inj (this.1.symm.trans this.2))
          have HR := Lib.hid hres
          clear hres hxy
          go_wp2
          go_quiet (fail)
          go_wp2
          go_ret
          exact ⟨by rw [HR.out]; rfl, below_drewN hB _⟩
      · obtain rfl : j = n := by omega
        have hres : decide (l1 = l2) = true := decide_eq_true (same_to (by rw [E1.out, E2.out]) (by rw [E1.out]; exact hok.out))
        have HR := Lib.hid hres
        clear hres
        go_wp2
        go_ret
        exact ⟨by rw [HR.out]; rfl, hB⟩
  · have hc0 : ((n : Int) != (m : Int)) = true := by simp only [bne_iff_ne, ne_eq]; omega
    have hres : decide (l1 = l2) = false := decide_eq_false fun h => hnm (by rw [← e1, ← e2, h])
    have HR := Lib.hid hres
    clear e1 e2 hres hnm
    go_enter Tryz.func112, Tryz.ntmps112
    go_wp2
    go_ret
    exact ⟨by rw [HR.out]; rfl, Below.refl _ _⟩


set_option maxRecDepth 100000 in
set_option maxHeartbeats 1000000 in
theorem entry_Same (x y : EntryD) (A B : Option Addr) (n c m k : Nat) (G : Nat → Prop) (w : World) (hr1 : Rd w G A n 2 (attrCells x.2)) (hr2 : Rd w G B m 2 (attrCells y.2)) (hn : n ≤ 1048576) :
    Calls Tryz.prog 87 #[.agg #[.string x.1, .slice A n c], .agg #[.string y.1, .slice B m k]] w fun e w' => e = .returned (.bool (decide (x = y))) ∧ Below w.heap.size w w' := by
  have hB := ((Below.refl w.heap.size w).alloc (Nat.le_refl _) (.cells #[.string x.1, .slice A n c] 68)).alloc (by simp) (.cells #[.string y.1, .slice B m k] 68)
  have q1 := (hr1.alloc (.cells #[.string x.1, .slice A n c] 68)).alloc (.cells #[.string y.1, .slice B m k] 68)
  have q2 := (hr2.alloc (.cells #[.string x.1, .slice A n c] 68)).alloc (.cells #[.string y.1, .slice B m k] 68)
  by_cases hxy : x.1 = y.1
  · have h1 : (x.1.toList == y.1.toList) = true := by rw [toList_beq, decide_eq_true hxy]
    have hd : decide (x = y) = decide (x.2 = y.2) := decide_eq_decide.2 ⟨fun h => by rw [h], fun h => Prod.ext hxy h⟩
    have HD := Lib.hid hd
    clear hxy hd
    go_enter Tryz.func87, Tryz.ntmps87
    go_wp2_with (go_at_call 112; (with_reducible refine (eq_attrs _ _ _ _ _ _ _ _ _ _ q1 q2 hn).mono ?_); rintro e w' ⟨rfl, hb⟩)
    go_ret
    exact ⟨by rw [HD.out]; rfl, hB.trans (hb.mono (by simp; omega))⟩
  · have h1 : (x.1.toList == y.1.toList) = false := by rw [toList_beq, decide_eq_false hxy]
    have hd : decide (x = y) = false := decide_eq_false fun h => hxy (by rw [h])
    have HD := Lib.hid hd
    clear hxy hd
    go_enter Tryz.func87, Tryz.ntmps87
    go_wp2
    go_ret
    exact ⟨by rw [HD.out]; rfl, hB⟩

end Go.Proofs.YtenjdidjjggefaaGreat
