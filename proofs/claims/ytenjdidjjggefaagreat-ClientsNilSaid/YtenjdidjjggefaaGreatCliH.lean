import Derived.Test.YtenjdidjjggefaaGreatCliG
namespace Go.Proofs.YtenjdidjjggefaaGreat
open Go.RowKit Go.Shelf Go.Sort Go.Maps

set_option maxRecDepth 100000 in
set_option maxHeartbeats 2000000 in
theorem equal_tables (g1 b1 g2 b2 : Nat) (F : Nat → Prop) (L1 L2 : List RowT) (w : World) (ht1 : Tbl w g1 b1 F L1) (ht2 : Tbl w g2 b2 F L2) (hs1 : Srt L1) (hs2 : Srt L2) (hbd : ∀ x ∈ L1, x.1 < 18446744073709551616) :
    Calls Tryz.prog 27 #[.map (some b1), .map (some b2), .func (.func 28) #[] #[]] w fun e w' => e = .returned (.bool (decide (L1 = L2))) ∧ Below w.heap.size w w' := by
  have hT1 := ht1
  have hT2 := ht2
  obtain ⟨_, _, _, _, n1, D1, o1, _, sz1, _, row1⟩ := ht1
  obtain ⟨_, _, _, _, n2, D2, o2, _, sz2, _, row2⟩ := ht2
  have l1 := fun ty => o1.len Tryz.underlying45 ty
  have l2 := fun ty => o2.len Tryz.underlying45 ty
  rw [sz1] at l1
  rw [sz2] at l2
  have R1 := Lib.hid row1
  have R2 := Lib.hid row2
  clear row1 row2
  by_cases hlen : L1.length = L2.length
  · have hl0 : ((L1.length : Int) != (L2.length : Int)) = false := by simp [hlen]
    have HLEN := Lib.hid hlen
    clear hlen
    go_enter Tryz.func27, Tryz.ntmps27
    go_wp2_with (first
      | (at_range; refine wpList_range_own _ rfl _ 45 rfl 30 74 keyed Tryz.underlying45 RV b1 n1 _ rfl o1 ?_; intro w0 hrg0 hg0 hs0)
      | go_in)
    go_frame
    go_loopw [18] (fun _ wr => ∃ (left : Lit → Bool) (cnt : Nat), wr.ranges Tryz.prog 30 RV b1 w.heap.size n1 D1 left cnt ∧ w.grownBy wr none ∧ Hid (Held L1 L2 left))
      (fun _ wr => wr.rangeLeft b1 w.heap.size)
    case atStart =>
      refine ⟨_, _, hrg0, hg0, fun c hc v hv hl => ?_⟩
      have := R1.out c hc
      rw [hv] at this
      obtain ⟨_, A, m, k, q, _⟩ := this
      rw [has_true_of_atKey q] at hl
      cases hl
    case round =>
      obtain ⟨left, cnt, hrg, hgw, HH⟩ := hrel
      go_wp2_with (first
        | (at_next; refine wpList_next_ranges _ rfl _ rfl 30 keyed RV id id (fun key _ _ => ⟨key, rfl⟩) (fun v _ _ => ⟨v, rfl⟩) b1 w.heap.size n1 _ _ _ rfl hrg ?_ ?_)
        | go_in)
      · intro _ hl0
        go_wp2
        go_ret
        exact ⟨by rw [decide_eq_true (held_all HH.out hl0 hs1 hs2 HLEN.out hbd)]; rfl, below_of_grown hgw⟩
      · intro x c kl y yp w1 cnt1 hkey hlx hv hat hrg1 hlt hg1 hsz1 hen
        obtain ⟨xi, rfl, rfl, hwf⟩ := Maps.keyOf_int_inv Tryz.underlying30 hkey
        obtain ⟨ci, rfl, hci⟩ : ∃ ci : Nat, xi = (ci : Int) ∧ ci < 18446744073709551616 := by
          simp [Lit.wf, IntKind.min, IntKind.max, IntKind.bits, IntKind.signed] at hwf
          exact ⟨xi.toNat, by omega, by omega⟩
        simp only [RV, Option.some.injEq, Prod.mk.injEq] at hv
        obtain ⟨rfl, rfl⟩ := hv
        have r1 := R1.out ci hci
        have r2 := R2.out ci hci
        have hgw1 : w.grownBy w1 none := hgw.andThen hg1 (fun j hj => by cases hj; exact Or.inl (Nat.le_refl _))
        have hch := Chg.of_below' (below_of_grown hgw1) (fun _ => False)
        have o2' := own_map_chg o2 hch (fun h => h)
        cases hg : getT L1 ci with
        | none =>
          rw [hg] at r1
          have := has_true_of_atKey hat
          rw [keyL] at r1
          rw [r1] at this
          cases this
        | some v1 =>
          obtain ⟨num, l⟩ := v1
          rw [hg] at r1
          obtain ⟨_, A, m, k, q1, q2, q3, q4⟩ := r1
          have hc : c = told num A m k := by
            have := (hat .nil).symm.trans (q1 .nil)
            simpa using this
          subst hc
          have q5 := q2.chg hch (fun _ _ _ h => h)
          have HG := Lib.hid hg
          clear hg q1 q2 hat
          have o3 := o2'.alloc (.cells #[.int .u64 (num : Int), .slice A m k] 74)
          clear hsz1
          simp only [told, id] at hen
          have g12 : w1.grownBy (w1.alloc (.cells #[.int .u64 (num : Int), .slice A m k] 74)) none := World.grownBy_alloc w1 _ none
          have hgw2 : w.grownBy (w1.alloc (.cells #[.int .u64 (num : Int), .slice A m k] 74)) none := hgw1.andThen g12 (fun j hj => by cases hj)
          cases hg2 : getT L2 ci with
          | none =>
            rw [hg2] at r2
            have hlk := look_none o3 hci r2 true
            have hres : decide (L1 = L2) = false := decide_eq_false fun h => by rw [← h, HG.out] at hg2; cases hg2
            have HR := Lib.hid hres
            simp only [if_true, told] at hlk
            clear hg2 hres r2
            have hg3 : w.grownBy ((w1.alloc (.cells #[.int .u64 (num : Int), .slice A m k] 74)).alloc (.cells #[.int .u64 0, .slice none 0 0] 74)) none := hgw2.andThen (World.grownBy_alloc _ _ none) (fun j hj => by cases hj)
            go_wp2
            go_ret
            exact ⟨by rw [HR.out]; rfl, below_of_grown hg3⟩
          | some v2 =>
            obtain ⟨num2, l2'⟩ := v2
            rw [hg2] at r2
            obtain ⟨_, A2, m2, k2, p1, p2, p3, p4⟩ := r2
            have hlk := look_some o3 hci p1 true
            simp only [if_true, told] at hlk
            have p5 := p2.chg hch (fun _ _ _ h => h)
            have hg3 : w.grownBy ((w1.alloc (.cells #[.int .u64 (num : Int), .slice A m k] 74)).alloc (.cells #[.int .u64 (num2 : Int), .slice A2 m2 k2] 74)) none := hgw2.andThen (World.grownBy_alloc _ _ none) (fun j hj => by cases hj)
            have hc := same1 F num num2 A A2 m k m2 k2 l l2' _ ((q5.alloc (.cells #[.int .u64 (num : Int), .slice A m k] 74)).alloc (.cells #[.int .u64 (num2 : Int), .slice A2 m2 k2] 74)) ((p5.alloc (.cells #[.int .u64 (num : Int), .slice A m k] 74)).alloc (.cells #[.int .u64 (num2 : Int), .slice A2 m2 k2] 74))
            simp only [told] at hc
            have k3 := (Blk.new w1 74 #[.int .u64 (num : Int), .slice A m k]).alloc (.cells #[.int .u64 (num2 : Int), .slice A2 m2 k2] 74)
            clear p1 p2
            by_cases hv : (num, l) = (num2, l2')
            · rw [decide_eq_true hv] at hc
              have HC := Lib.hid hc
              have HGG : Hid (getT L1 ci = getT L2 ci) := by show _ = _; rw [HG.out, hg2, hv]
              clear hg2 hv hc
              go_wp2_with (go_at_call 28; (with_reducible refine HC.out.mono ?_); rintro e w3 ⟨rfl, hb3⟩)
              have hg4 := grown_of_below hb3
              have hrg2 := ((hrg1.kept g12 (by simp) (by simp)).kept (World.grownBy_alloc _ (.cells #[.int .u64 (num2 : Int), .slice A2 m2 k2] 74) none) (by simp) (by simp)).kept hg4 (by simp) (by simp)
              go_roundw
              case rel => exact ⟨_, cnt1, hrg2, hg3.andThen hg4 (fun j hj => by cases hj), held_step HH.out HGG.out⟩
              case measure => rw [hrg2.left_eq, hrg.left_eq]; exact hlt
            · rw [decide_eq_false hv] at hc
              have HC := Lib.hid hc
              have hres : decide (L1 = L2) = false := decide_eq_false fun h => hv (by rw [← h, HG.out] at hg2; exact Option.some.inj hg2)
              have HR := Lib.hid hres
              clear hg2 hv hc hres
              go_wp2_with (go_at_call 28; (with_reducible refine HC.out.mono ?_); rintro e w3 ⟨rfl, hb3⟩)
              go_ret
              exact ⟨by rw [HR.out]; rfl, below_of_grown (hg3.andThen (grown_of_below hb3) (fun j hj => by cases hj))⟩
  · have hl0 : ((L1.length : Int) != (L2.length : Int)) = true := by simp only [bne_iff_ne, ne_eq]; omega
    have hd : decide (L1 = L2) = false := decide_eq_false fun h => hlen (by rw [h])
    have HD := Lib.hid hd
    clear hlen hd
    go_enter Tryz.func27, Tryz.ntmps27
    go_wp2
    go_ret
    exact ⟨by rw [HD.out]; rfl, Below.refl _ _⟩

end Go.Proofs.YtenjdidjjggefaaGreat
