import Derived.Test.YtenjdidjjggefaaGreatRdB
namespace Go.Proofs.YtenjdidjjggefaaGreat
open Go.RowKit Go.Shelf Go.Sort

/-- a yes or no taken off -/
def flagZ (z : Option (List UInt8) × (Bool × List UInt8)) : Bool × (Bool × List UInt8) :=
  match z.1 with
  | none => (false, z.2)
  | some b => if b = [0] then (false, z.2) else if b = [1] then (true, z.2) else (false, (true, z.2.2))

theorem Rdr.fail {w : World} {g : Nat} {G : Nat → Prop} {bad : Bool} {l : List UInt8} (h : Rdr w g G bad l) : Rdr (w.setCell ⟨g, 1, none⟩ (.bool true)) g G true l ∧ Chg (· = g) w (w.setCell ⟨g, 1, none⟩ (.bool true)) := by
  obtain ⟨A2, n2, c2, k1, k2, k3, k4, k5⟩ := h
  exact ⟨⟨A2, n2, c2, k1.set_ 1 _, k2.chg ((Chg.refl (· = g) w).setCell (.inl rfl) _) (fun k _ h1 h2 => k5 (h2 ▸ h1)), k3, k4, k5⟩, (Chg.refl (· = g) w).setCell (.inl rfl) _⟩
theorem Rdr.can {w : World} {g : Nat} {G : Nat → Prop} {bad : Bool} {l : List UInt8} (h : Rdr w g G bad l) : w.cell? ⟨g, 1, none⟩ = some (.bool bad) ∧ w.frozen? ⟨g, 1, none⟩ = false := by
  obtain ⟨A2, n2, c2, k1, k2, k3, k4, k5⟩ := h
  exact ⟨k1.cell 1, k1.frozen 1⟩

set_option maxRecDepth 100000 in
set_option maxHeartbeats 1000000 in
theorem rdr_Flag (g : Nat) (G : Nat → Prop) (bad : Bool) (l : List UInt8) (tag : UInt8) (w : World) (hr : Rdr w g G bad l) :
    Calls Tryz.prog 50 #[.pointer (some ⟨g, 0, none⟩), .int .u8 (tag.toNat : Int)] w fun e w' =>
      e = .returned (.bool (flagZ (takeZ (bad, l) tag)).1) ∧ Rdr w' g G (flagZ (takeZ (bad, l) tag)).2.1 (flagZ (takeZ (bad, l) tag)).2.2 ∧ Chg (· = g) w w' := by
  have HT := Lib.hid (rdr_take g G bad l tag w hr)
  generalize takeZ (bad, l) tag = z at HT ⊢
  obtain ⟨o, s⟩ := z
  cases o with
  | none =>
    go_enter Tryz.func50, Tryz.ntmps50
    go_wp2_with (go_at_call 77; (with_reducible refine HT.out.mono ?_); rintro e' w1 ⟨hres, hR, hC⟩; dsimp only at hres; subst hres)
    go_ret
    exact ⟨rfl, hR, hC⟩
  | some b =>
    by_cases hb1 : b.length = 1
    · obtain ⟨x, rfl⟩ : ∃ x, b = [x] := List.length_eq_one_iff.1 hb1
      have h1 : (([x].length : Nat) : Int) = 1 := rfl
      have h2 : ((([x].length : Nat) : Int) != 1) = false := rfl
      by_cases hx : x.toNat ≤ 1
      · have hx0 : decide ((x.toNat : Int) > 1) = false := decide_eq_false (by omega)
        by_cases hx1 : x = 1
        · have e1 : ((x.toNat : Int) == 1) = true := by subst hx1; rfl
          have hz : flagZ (some [x], s) = (true, s) := by subst hx1; simp [flagZ]
          have HZ := Lib.hid hz
          clear hz hx1
          go_enter Tryz.func50, Tryz.ntmps50
          go_wp2_with (go_at_call 77; (with_reducible refine HT.out.mono ?_); rintro e' w1 ⟨hres, hR, hC⟩; obtain ⟨A', hres2, hrd⟩ := hres; subst hres2; obtain ⟨b', off', x', rfl, hx', d0⟩ := hrd.at1 (j := 0) (by simp); rw [Nat.add_zero] at d0; obtain rfl : x = x' := by simpa using hx')
          go_ret
          rw [HZ.out]
          exact ⟨rfl, hR, hC⟩
        · have hx2 : x = 0 := by
            apply UInt8.toNat_inj.1
            have : x.toNat ≠ 1 := fun h => hx1 (UInt8.toNat_inj.1 h)
            simp; omega
          have e1 : ((x.toNat : Int) == 1) = false := by subst hx2; rfl
          have hz : flagZ (some [x], s) = (false, s) := by subst hx2; simp [flagZ]
          have HZ := Lib.hid hz
          clear hz hx1 hx2
          go_enter Tryz.func50, Tryz.ntmps50
          go_wp2_with (go_at_call 77; (with_reducible refine HT.out.mono ?_); rintro e' w1 ⟨hres, hR, hC⟩; obtain ⟨A', hres2, hrd⟩ := hres; subst hres2; obtain ⟨b', off', x', rfl, hx', d0⟩ := hrd.at1 (j := 0) (by simp); rw [Nat.add_zero] at d0; obtain rfl : x = x' := by simpa using hx')
          go_ret
          rw [HZ.out]
          exact ⟨rfl, hR, hC⟩
      · have hx0 : decide ((x.toNat : Int) > 1) = true := decide_eq_true (by omega)
        have hz : flagZ (some [x], s) = (false, (true, s.2)) := by
          have a0 : ¬ x = 0 := by rintro rfl; simp at hx
          have a1 : ¬ x = 1 := by rintro rfl; simp at hx
          simp [flagZ, a0, a1]
        have HZ := Lib.hid hz
        clear hz
        go_enter Tryz.func50, Tryz.ntmps50
        go_wp2_with (go_at_call 77; (with_reducible refine HT.out.mono ?_); rintro e' w1 ⟨hres, hR, hC⟩; obtain ⟨A', hres2, hrd⟩ := hres; subst hres2; obtain ⟨b', off', x', rfl, hx', d0⟩ := hrd.at1 (j := 0) (by simp); rw [Nat.add_zero] at d0; obtain rfl : x = x' := (by simpa using hx'); obtain ⟨g1, g2⟩ := hR.can)
        go_ret
        rw [HZ.out]
        exact ⟨rfl, hR.fail.1, hC.same hR.fail.2⟩
    · have h2 : ((b.length : Int) != 1) = true := by simp only [bne_iff_ne, ne_eq]; omega
      have hz : flagZ (some b, s) = (false, (true, s.2)) := by
        have a0 : ¬ b = [0] := by rintro rfl; simp at hb1
        have a1 : ¬ b = [1] := by rintro rfl; simp at hb1
        simp [flagZ, a0, a1]
      have HZ := Lib.hid hz
      clear hz
      go_enter Tryz.func50, Tryz.ntmps50
      go_wp2_with (go_at_call 77; (with_reducible refine HT.out.mono ?_); rintro e' w1 ⟨hres, hR, hC⟩; obtain ⟨A', hres2, hrd⟩ := hres; subst hres2; obtain ⟨g1, g2⟩ := hR.can)
      go_ret
      rw [HZ.out]
      exact ⟨rfl, hR.fail.1, hC.same hR.fail.2⟩

/-- a reader's end -/
def endZ (s : Bool × List UInt8) : Int := if s.1 = true ∨ 0 < s.2.length then 4 else 0

set_option maxRecDepth 100000 in
set_option maxHeartbeats 1000000 in
theorem rdr_End (g : Nat) (G : Nat → Prop) (bad : Bool) (l : List UInt8) (w : World) (hr : Rdr w g G bad l) :
    Calls Tryz.prog 55 #[.pointer (some ⟨g, 0, none⟩)] w fun e w' => e = .returned (.int .i64 (endZ (bad, l))) ∧ w' = w := by
  obtain ⟨A, n, c, hb, hrd, hnc, hn, hg⟩ := hr
  have hln : l.length = n := by have := hrd.1; simp at this; omega
  have h0 := hb.cell 0
  have h1 := hb.cell 1
  have h2 := hb.cell 2
  simp only [List.getElem?_toArray, List.getElem?_cons_zero, List.getElem?_cons_succ] at h0 h1 h2
  cases bad
  · by_cases hp : 0 < n
    · have hd : decide ((n : Int) > 0) = true := decide_eq_true (by omega)
      have hz : endZ (false, l) = 4 := by simp only [endZ]; rw [if_pos (.inr (by omega))]
      have HZ := Lib.hid hz
      clear hz hln
      go_enter Tryz.func55, Tryz.ntmps55
      go_wp2
      go_ret
      exact ⟨by rw [HZ.out]; rfl, rfl⟩
    · have hd : decide ((n : Int) > 0) = false := decide_eq_false (by omega)
      have hz : endZ (false, l) = 0 := by simp only [endZ]; rw [if_neg (by simp; exact List.eq_nil_of_length_eq_zero (by omega))]
      have HZ := Lib.hid hz
      clear hz hln
      go_enter Tryz.func55, Tryz.ntmps55
      go_wp2
      go_ret
      exact ⟨by rw [HZ.out]; rfl, rfl⟩
  · go_enter Tryz.func55, Tryz.ntmps55
    go_wp2
    go_ret
    exact ⟨rfl, rfl⟩

/-- a number of at most 255 taken off -/
def smallZ (x : Nat × (Bool × List UInt8)) : Nat × (Bool × List UInt8) := if 255 < x.1 then (0, (true, x.2.2)) else x

set_option maxRecDepth 100000 in
set_option maxHeartbeats 1000000 in
theorem msg_number (g : Nat) (G : Nat → Prop) (bad : Bool) (l : List UInt8) (tag : UInt8) (w : World) (hr : Rdr w g G bad l) :
    Calls Tryz.prog 49 #[.pointer (some ⟨g, 0, none⟩), .int .u8 (tag.toNat : Int), .int .u64 255] w fun e w' =>
      e = .returned (.int .i64 ((smallZ (numZ (takeZ (bad, l) tag))).1 : Int)) ∧ Rdr w' g G (smallZ (numZ (takeZ (bad, l) tag))).2.1 (smallZ (numZ (takeZ (bad, l) tag))).2.2 ∧ Chg (· = g) w w' := by
  have HT := Lib.hid (rdr_Number g G bad l tag w hr)
  generalize numZ (takeZ (bad, l) tag) = z at HT ⊢
  obtain ⟨n, s⟩ := z
  by_cases hn : 255 < n
  · have hd : decide ((n : Int) > 255) = true := decide_eq_true (by omega)
    have hz : smallZ (n, s) = (0, (true, s.2)) := by simp only [smallZ]; rw [if_pos hn]
    have HZ := Lib.hid hz
    clear hz
    go_enter Tryz.func49, Tryz.ntmps49
    go_wp2_with (first
      | (go_at_call 75; (with_reducible refine HT.out.mono ?_); rintro e' w1 ⟨rfl, hR, hC⟩; obtain ⟨A2, n2, c2, k1, k2, k3, k4, k5⟩ := hR)
      | (go_at_call 76; (with_reducible refine (rdr_Fail g _ _ _ k1).mono ?_); rintro e' w2 ⟨rfl, hb2, hc2⟩))
    go_ret
    rw [HZ.out]
    exact ⟨rfl, ⟨A2, n2, c2, hb2, k2.chg hc2 (fun k _ h1 h2 => k5 (h2 ▸ h1)), k3, k4, k5⟩, hC.same hc2⟩
  · have hd : decide ((n : Int) > 255) = false := decide_eq_false (by omega)
    have hz : smallZ (n, s) = (n, s) := by simp only [smallZ]; rw [if_neg hn]
    have HZ := Lib.hid hz
    have hw : IntKind.i64.wrap (n : Int) = n := wraps_i64 _ (by omega) (by omega)
    clear hz
    go_enter Tryz.func49, Tryz.ntmps49
    go_wp2_with (first
      | (go_at_call 75; (with_reducible refine HT.out.mono ?_); rintro e' w1 ⟨rfl, hR, hC⟩))
    go_ret
    rw [HZ.out]
    exact ⟨rfl, hR, hC⟩

end Go.Proofs.YtenjdidjjggefaaGreat
