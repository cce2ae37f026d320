import Derived.Test.YtenjdidjjggefaaGreatResB
namespace Go.Proofs.YtenjdidjjggefaaGreat
open Go.RowKit Go.Shelf Go.Sort

/-- the slice value '.slice A n _' holds the entries es, all in blocks of the set G -/
def RE (w : World) (G : Nat → Prop) (A : Option Addr) (n : Nat) (es : List EntryD) : Prop :=
  es.length = n ∧ (0 < n → ∃ b off, A = some ⟨b, off, none⟩ ∧ G b ∧ b < w.heap.size ∧ ∀ (j : Nat) (x : EntryD), es[j]? = some x → ∃ A' m c,
    w.cell? ⟨b, off + j * 2, none⟩ = some (.string x.1) ∧ w.cell? ⟨b, off + j * 2 + 1, none⟩ = some (.slice A' m c) ∧ Rd w G A' m 2 (attrCells x.2) ∧ m ≤ 1048576)
section
variable {w w' : World} {G G' : Nat → Prop} {A : Option Addr} {n : Nat} {es : List EntryD}
theorem RE.none_ (w : World) (G : Nat → Prop) (A : Option Addr) : RE w G A 0 [] := ⟨rfl, fun h => absurd h (by omega)⟩
theorem RE.keep (h : RE w G A n es) (hsz : w.heap.size ≤ w'.heap.size) (hk : ∀ p : Addr, p.block < w.heap.size → G p.block → w'.cell? p = w.cell? p) : RE w' G A n es :=
  ⟨h.1, fun hn => by
    obtain ⟨b, off, e, hb, hlt, hc⟩ := h.2 hn
    refine ⟨b, off, e, hb, by omega, fun j x hx => ?_⟩
    obtain ⟨A', m, c, h1, h2, h3, h4⟩ := hc j x hx
    exact ⟨A', m, c, (hk _ hlt hb).trans h1, (hk _ hlt hb).trans h2, h3.keep hsz hk, h4⟩⟩
theorem RE.more (h : RE w G A n es) (hB : ∀ k, k < w.heap.size → G k → G' k) : RE w G' A n es :=
  ⟨h.1, fun hn => by
    obtain ⟨b, off, e, hb, hlt, hc⟩ := h.2 hn
    refine ⟨b, off, e, hB _ hlt hb, by omega, fun j x hx => ?_⟩
    obtain ⟨A', m, c, h1, h2, h3, h4⟩ := hc j x hx
    exact ⟨A', m, c, h1, h2, h3.more hB, h4⟩⟩
theorem RE.chg {F : Nat → Prop} (h : RE w G A n es) (hb : Chg F w w') (hG : ∀ k, k < w.heap.size → G k → ¬ F k) : RE w' G A n es := h.keep hb.size fun p hp hg => hb.cell hp (hG _ hp hg)
theorem RE.below {B : Nat} (h : RE w G A n es) (hb : Below B w w') (hG : ∀ k, k < w.heap.size → G k → k < B) : RE w' G A n es := h.keep hb.size fun _ hp hg => hb.cell (hG _ hp hg)
theorem RE.alloc (h : RE w G A n es) (o : Obj) : RE (w.alloc o) G A n es := h.keep (by simp) fun p hp _ => World.cell?_alloc_lt w o p hp
theorem RE.at_ (h : RE w G A n es) {j : Nat} (hj : j < n) :
    ∃ b off x A' m c, A = some ⟨b, off, none⟩ ∧ es[j]? = some x ∧ w.cell? ⟨b, off + j * 2, none⟩ = some (.string x.1) ∧ w.cell? ⟨b, off + j * 2 + 1, none⟩ = some (.slice A' m c) ∧ Rd w G A' m 2 (attrCells x.2) ∧ m ≤ 1048576 := by
  obtain ⟨b, off, e, _, _, hc⟩ := h.2 (by omega)
  have hx : es[j]? = some (es[j]'(by have := h.1; omega)) := List.getElem?_eq_getElem (by have := h.1; omega)
  obtain ⟨A', m, c, h1, h2, h3, h4⟩ := hc j _ hx
  exact ⟨b, off, _, A', m, c, e, hx, h1, h2, h3, h4⟩
end

set_option maxRecDepth 100000 in
set_option maxHeartbeats 1000000 in
theorem may_result1 (e : EntryD) (A : Option Addr) (n c : Nat) (G : Nat → Prop) (w : World) (hr : Rd w G A n 2 (attrCells e.2)) (hn : n ≤ 1048576) :
    Calls Tryz.prog 65 #[.agg #[.string e.1, .slice A n c]] w fun r w' => r = .returned (.bool (!mayEntryD e)) ∧ Below w.heap.size w w' := by
  have hB := (Below.refl w.heap.size w).alloc (Nat.le_refl _) (.cells #[.string e.1, .slice A n c] 68)
  have hr1 := hr.alloc (.cells #[.string e.1, .slice A n c] 68)
  go_enter Tryz.func65, Tryz.ntmps65
  go_wp2_with (go_at_call 66; (with_reducible refine (entry_MayEntry e _ _ _ _ _ hr1 hn).mono ?_); rintro e' w' ⟨rfl, hb⟩)
  go_ret
  exact ⟨rfl, hB.trans (hb.mono (by simp))⟩

/-- the place of the first entry that may not be; below 0: all may be -/
def badsD (es : List EntryD) : Bool := es.any fun e => !mayEntryD e

set_option maxRecDepth 100000 in
set_option maxHeartbeats 1000000 in
theorem index_bad (A : Option Addr) (n c : Nat) (es : List EntryD) (G : Nat → Prop) (w : World) (hr : RE w G A n es) (hn : n ≤ 1048576) :
    Calls Tryz.prog 89 #[.slice A n c, .func (.func 65) #[] #[]] w fun e w' => (∃ z : Int, e = .returned (.int .i64 z) ∧ decide (z ≥ 0) = badsD es) ∧ Below w.heap.size w w' := by
  go_enter Tryz.func89, Tryz.ntmps89
  go_wp2
  go_loopw [8] (fun k wr => ∃ j : Nat, k = .int .i64 j ∧ j ≤ n ∧ Hid (∀ i, i < j → ∀ x, es[i]? = some x → mayEntryD x = true) ∧ Below w.heap.size w wr) (fun k _ => n - (intOf k).toNat)
  case atStart => exact ⟨0, rfl, by omega, fun k h => absurd h (by omega), Below.refl _ _⟩
  case round =>
    obtain ⟨j, rfl, hj, hok, hB⟩ := hrel
    by_cases hlt : j < n
    · obtain ⟨b, off, x, A', m, c', rfl, hx, d0, d1, hrx, hm⟩ := (hr.below hB (fun k hk _ => hk)).at_ hlt
      have HX := Lib.hid hx
      clear hx
      have HC := Lib.hid (may_result1 x A' m c' G wr hrx hm)
      cases hma : mayEntryD x
      · rw [hma] at HC
        have hres : badsD es = true := by
          rw [badsD, List.any_eq_true]
          exact ⟨x, List.mem_of_getElem? HX.out, by simp [hma]⟩
        have HR := Lib.hid hres
        clear hres hma
        go_wp2_with (go_at_call 65; (with_reducible refine HC.out.mono ?_); rintro e' w1 ⟨rfl, hb1⟩; have hB1 := hB.trans (hb1.mono hB.size))
        go_ret
        exact ⟨⟨_, rfl, by rw [HR.out]; exact decide_eq_true (by omega)⟩, hB1⟩
      · rw [hma] at HC
        have HM := Lib.hid hma
        clear hma
        go_wp2_with (go_at_call 65; (with_reducible refine HC.out.mono ?_); rintro e' w1 ⟨rfl, hb1⟩; have hB1 := hB.trans (hb1.mono hB.size))
        go_roundw
        case rel => exact ⟨j + 1, by go_num, by omega, upto_next hok.out (fun y hy => by rw [HX.out] at hy; cases hy; exact HM.out), hB1⟩
        case measure => simp [intOf]; omega
    · obtain rfl : j = n := by omega
      have hres : badsD es = false := by
        rw [badsD, List.any_eq_false]
        intro x hx
        obtain ⟨i, hi, rfl⟩ := List.getElem_of_mem hx
        have := hok.out i (by have := hr.1; omega) _ (List.getElem?_eq_getElem hi)
        simp [this]
      have HR := Lib.hid hres
      clear hres
      go_wp2
      go_ret
      exact ⟨⟨_, rfl, by rw [HR.out]; rfl⟩, hB⟩

set_option maxRecDepth 100000 in
set_option maxHeartbeats 1000000 in
theorem contains_bad (A : Option Addr) (n c : Nat) (es : List EntryD) (G : Nat → Prop) (w : World) (hr : RE w G A n es) (hn : n ≤ 1048576) :
    Calls Tryz.prog 64 #[.slice A n c, .func (.func 65) #[] #[]] w fun e w' => e = .returned (.bool (badsD es)) ∧ Below w.heap.size w w' := by
  go_enter Tryz.func64, Tryz.ntmps64
  go_wp2_with (go_at_call 89; (with_reducible refine (index_bad _ _ _ es _ _ hr hn).mono ?_); rintro e' w1 ⟨⟨z, rfl, hz⟩, hb1⟩; have HZ := Lib.hid hz; clear hz)
  go_ret
  exact ⟨by rw [← HZ.out]; rfl, hb1⟩

set_option maxRecDepth 100000 in
set_option maxHeartbeats 1000000 in
theorem eq_entries (A B : Option Addr) (n c m k : Nat) (l1 l2 : List EntryD) (G : Nat → Prop) (w : World) (hr1 : RE w G A n l1) (hr2 : RE w G B m l2) (hn : n ≤ 1048576) :
    Calls Tryz.prog 86 #[.slice A n c, .slice B m k, .func (.func 87) #[] #[]] w fun e w' => e = .returned (.bool (decide (l1 = l2))) ∧ Below w.heap.size w w' := by
  have e1 := hr1.1
  have e2 := hr2.1
  by_cases hnm : n = m
  · subst hnm
    have E1 := Lib.hid e1
    have E2 := Lib.hid e2
    clear e1 e2
    have hc0 : ((n : Int) != (n : Int)) = false := by simp
    go_enter Tryz.func86, Tryz.ntmps86
    go_wp2
    go_loopw [17] (fun k wr => ∃ j : Nat, k = .int .i64 j ∧ j ≤ n ∧ Hid (∀ i, i < j → l1[i]? = l2[i]?) ∧ Below w.heap.size w wr) (fun k _ => n - (intOf k).toNat)
    case atStart => exact ⟨0, rfl, by omega, fun k h => absurd h (by omega), Below.refl _ _⟩
    case round =>
      obtain ⟨j, rfl, hj, hok, hB⟩ := hrel
      by_cases hlt : j < n
      · obtain ⟨b, off, x, A1, m1, c1, rfl, hx, d0, d1, hrx, hm1⟩ := (hr1.below hB (fun k hk _ => hk)).at_ hlt
        obtain ⟨b', off', y, A2, m2, c2, rfl, hy, d2, d3, hry, hm2⟩ := (hr2.below hB (fun k hk _ => hk)).at_ hlt
        have HXY : Hid (l1[j]? = some x ∧ l2[j]? = some y) := ⟨hx, hy⟩
        clear hx hy
        have l0 := lt_of_cell d2
        have l1' := lt_of_cell d3
        have HS := Lib.hid (entry_Same x y A1 A2 m1 c1 m2 c2 G _ ((hrx.alloc (.cells #[.string x.1, .slice A1 m1 c1] 68)).alloc (.cells #[.string y.1, .slice A2 m2 c2] 68)) ((hry.alloc (.cells #[.string x.1, .slice A1 m1 c1] 68)).alloc (.cells #[.string y.1, .slice A2 m2 c2] 68)) hm1)
        have hB2 := (hB.alloc hB.size (.cells #[.string x.1, .slice A1 m1 c1] 68)).alloc (by simp; have := hB.size; omega) (.cells #[.string y.1, .slice A2 m2 c2] 68)
        by_cases hxy : x = y
        · rw [decide_eq_true hxy] at HS
          have HE := Lib.hid hxy
          clear hxy
          go_wp2_with (go_at_call 87; (with_reducible refine HS.out.mono ?_); rintro e' w1 ⟨rfl, hb1⟩; have hB3 := hB2.trans (hb1.mono (by have := hB.size; simp; omega)))
          go_roundw
          case rel => exact ⟨j + 1, by go_num, by omega, upto_next hok.out (by rw [HXY.out.1, HXY.out.2, HE.out]), hB3⟩
          case measure => simp [intOf]; omega
        · rw [decide_eq_false hxy] at HS
          have hres : decide (l1 = l2) = false := decide_eq_false fun h => hxy (by have := HXY.out; rw [h] at this; exact Option.some.inj (this.1.symm.trans this.2))
          have HR := Lib.hid hres
          clear hres hxy
          go_wp2_with (go_at_call 87; (with_reducible refine HS.out.mono ?_); rintro e' w1 ⟨rfl, hb1⟩; have hB3 := hB2.trans (hb1.mono (by have := hB.size; simp; omega)))
          go_ret
          exact ⟨by rw [HR.out]; rfl, hB3⟩
      · obtain rfl : j = n := by omega
        have hres : decide (l1 = l2) = true := decide_eq_true (same_to (by rw [E1.out, E2.out]) (by rw [E1.out]; exact hok.out))
        have HR := Lib.hid hres
        clear hres
        go_wp2
        go_ret
        exact ⟨by rw [HR.out]; rfl, hB⟩
  · have hc0 : ((n : Int) != (m : Int)) = true := by simp only [bne_iff_ne, ne_eq]; omega
    have hres : decide (l1 = l2) = false := decide_eq_false fun h => hnm (by rw [← e1, ← e2, h])
    have HR := Lib.hid hres
    clear e1 e2 hres hnm
    go_enter Tryz.func86, Tryz.ntmps86
    go_wp2
    go_ret
    exact ⟨by rw [HR.out]; rfl, Below.refl _ _⟩

end Go.Proofs.YtenjdidjjggefaaGreat
