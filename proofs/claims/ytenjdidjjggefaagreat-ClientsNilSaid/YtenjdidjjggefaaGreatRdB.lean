import Derived.Test.YtenjdidjjggefaaGreatRdA
namespace Go.Proofs.YtenjdidjjggefaaGreat
open Go.RowKit Go.Shelf Go.Sort

/-- bytes taken off: what Bytes answers -/
def BytesSays (g : Nat) (G : Nat → Prop) (z : Option (List UInt8) × (Bool × List UInt8)) (w : World) (e : Ending) (w' : World) : Prop :=
  (∃ A' n', e = .returned (.slice A' n' n') ∧ Rd w' G A' n' 1 (bV (z.1.getD []))) ∧ Rdr w' g G z.2.1 z.2.2 ∧ Chg (· = g) w w'

set_option maxRecDepth 100000 in
set_option maxHeartbeats 1000000 in
theorem rdr_Bytes (g : Nat) (G : Nat → Prop) (bad : Bool) (l : List UInt8) (tag : UInt8) (w : World) (hr : Rdr w g G bad l) :
    Calls Tryz.prog 54 #[.pointer (some ⟨g, 0, none⟩), .int .u8 (tag.toNat : Int)] w (BytesSays g G (takeZ (bad, l) tag) w) := by
  have HT := Lib.hid (rdr_take g G bad l tag w hr)
  generalize takeZ (bad, l) tag = z at HT ⊢
  obtain ⟨o, s⟩ := z
  cases o with
  | none =>
    go_enter Tryz.func54, Tryz.ntmps54
    go_wp2_with (go_at_call 77; (with_reducible refine HT.out.mono ?_); rintro e' w1 ⟨hres, hR, hC⟩; dsimp only at hres; subst hres)
    go_ret
    exact ⟨⟨none, 0, rfl, Rd.none_ _ _ _ _⟩, hR, hC⟩
  | some b =>
    go_enter Tryz.func54, Tryz.ntmps54
    go_wp2_with (go_at_call 77; (with_reducible refine HT.out.mono ?_); rintro e' w1 ⟨hres, hR, hC⟩; obtain ⟨A', hres2, hrd⟩ := hres; subst hres2)
    go_ret
    exact ⟨⟨A', b.length, rfl, hrd⟩, hR, hC⟩

/-- a number out of its bytes -/
def numL (l : List UInt8) : Nat := l.foldl (fun n c => n * 256 + c.toNat) 0
theorem numL_snoc (l : List UInt8) (x : UInt8) : numL (l ++ [x]) = numL l * 256 + x.toNat := by simp [numL]
theorem numL_from : ∀ (l : List UInt8) (a : Nat), l.foldl (fun n c => n * 256 + c.toNat) a < (a + 1) * 256 ^ l.length
  | [], a => by simp
  | x :: l, a => by
    have h := numL_from l (a * 256 + x.toNat)
    have hx := x.toNat_lt
    rw [List.foldl_cons, List.length_cons, Nat.pow_succ]
    refine Nat.lt_of_lt_of_le h ?_
    rw [Nat.mul_comm (256 ^ l.length) 256, ← Nat.mul_assoc]
    exact Nat.mul_le_mul_right _ (by omega)
theorem numL_lt (l : List UInt8) : numL l < 256 ^ l.length := by
  have := numL_from l 0
  simpa [numL] using this

theorem wraps_u64 (n : Int) (h₀ : 0 ≤ n) (h₁ : n < 2 ^ 64) : IntKind.u64.wrap n = n := by rw [IntKind.wrap_u64]; omega
theorem or_num (N : Nat) (x : UInt8) (hN : N < 72057594037927936) : bits .or .u64 ((N : Int) * 256) (x.toNat : Int) = ((N * 256 + x.toNat : Nat) : Int) := by
  have hx := x.toNat_lt
  rw [bits_join .u64 64 (by decide) wraps_u64 8 ((N : Int) * 256) (x.toNat : Int) (by omega) (by omega) (by omega) (by omega) (by omega) (by omega)]
  omega

/-- a number taken off -/
def numZ (z : Option (List UInt8) × (Bool × List UInt8)) : Nat × (Bool × List UInt8) :=
  match z.1 with
  | none => (0, z.2)
  | some b => if b.length = 8 then (numL b, z.2) else (0, (true, z.2.2))

set_option maxRecDepth 100000 in
set_option maxHeartbeats 1000000 in
theorem rdr_Number (g : Nat) (G : Nat → Prop) (bad : Bool) (l : List UInt8) (tag : UInt8) (w : World) (hr : Rdr w g G bad l) :
    Calls Tryz.prog 75 #[.pointer (some ⟨g, 0, none⟩), .int .u8 (tag.toNat : Int)] w fun e w' =>
      e = .returned (.int .u64 ((numZ (takeZ (bad, l) tag)).1 : Int)) ∧ Rdr w' g G (numZ (takeZ (bad, l) tag)).2.1 (numZ (takeZ (bad, l) tag)).2.2 ∧ Chg (· = g) w w' := by
  have HT := Lib.hid (rdr_take g G bad l tag w hr)
  generalize takeZ (bad, l) tag = z at HT ⊢
  obtain ⟨o, s⟩ := z
  cases o with
  | none =>
    go_enter Tryz.func75, Tryz.ntmps75
    go_wp2_with (go_at_call 77; (with_reducible refine HT.out.mono ?_); rintro e' w1 ⟨hres, hR, hC⟩; dsimp only at hres; subst hres)
    refine wp_loop_once ?_
    go_wp2
    go_ret
    exact ⟨rfl, hR, hC⟩
  | some b =>
    by_cases hb8 : b.length = 8
    · have hz : numZ (some b, s) = (numL b, s) := by simp [numZ, hb8]
      have h8 : ((b.length : Int) != 8) = false := by simp only [bne_eq_false_iff_eq]; omega
      have HZ := Lib.hid hz
      have hb8' : (b.length : Int) = 8 := by omega
      clear hz
      go_enter Tryz.func75, Tryz.ntmps75
      go_wp2_with (go_at_call 77; (with_reducible refine HT.out.mono ?_); rintro e' w1 ⟨hres, hR, hC⟩; obtain ⟨A', hres2, hrd⟩ := hres; subst hres2)
      go_loopw [7, 27] (fun v k wr => ∃ j : Nat, k = .int .i64 j ∧ v = .int .u64 (numL (b.take j) : Int) ∧ j ≤ 8 ∧ wr = w1) (fun _ k _ => 8 - (intOf k).toNat)
      case atStart => exact ⟨0, rfl, rfl, by omega, rfl⟩
      case round =>
        obtain ⟨j, rfl, rfl, hj, rfl⟩ := hrel
        by_cases hlt : j < 8
        · obtain ⟨b', off', x, rfl, hx, d0⟩ := hrd.at1 (by omega : j < b.length)
          have hlt' : (j : Int) < (b.length : Int) := by omega
          obtain ⟨N, hN⟩ : ∃ N, numL (b.take j) = N := ⟨_, rfl⟩
          have hNlt : N < 72057594037927936 := by
            have h1 := numL_lt (b.take j)
            have h2 : (b.take j).length ≤ 7 := by rw [List.length_take]; omega
            have h3 : 256 ^ (b.take j).length ≤ 256 ^ 7 := Nat.pow_le_pow_right (by omega) h2
            omega
          have hnext : numL (b.take (j + 1)) = N * 256 + x.toNat := by
            rw [List.take_add_one, hx, ← hN]
            exact numL_snoc _ _
          have hor := or_num N x hNlt
          rw [hN]
          have HNX := Lib.hid hnext
          clear hnext hN
          have HW := Lib.hid (wraps_u64 (x.toNat : Int) (by omega) (by have := x.toNat_lt; omega))
          have HOR := Lib.hid hor
          clear hor
          go_wp2
          refine ⟨⟨j + 1, rfl, ?_, by omega, trivial⟩, ?_⟩
          · rw [HW.out, HOR.out, HNX.out]
          · simp [intOf]; omega
        · obtain rfl : j = 8 := by omega
          have hall : b.take 8 = b := List.take_of_length_le (by omega)
          rw [hall]
          have hlt' : ¬ ((8 : Nat) : Int) < (b.length : Int) := by omega
          clear hall
          go_wp2
          go_ret
          rw [HZ.out]
          exact ⟨rfl, hR, hC⟩
    · have hz : numZ (some b, s) = (0, (true, s.2)) := by simp [numZ, hb8]
      have h8 : ((b.length : Int) != 8) = true := by simp only [bne_iff_ne, ne_eq]; omega
      have HZ := Lib.hid hz
      clear hz
      go_enter Tryz.func75, Tryz.ntmps75
      go_wp2_with (go_at_call 77; (with_reducible refine HT.out.mono ?_); rintro e' w1 ⟨hres, hR, hC⟩; obtain ⟨A', hres2, hrd⟩ := hres; subst hres2; obtain ⟨A2, n2, c2, k1, k2, k3, k4, k5⟩ := hR; have g1 := k1.cell 1; have g2 := k1.frozen 1)
      go_ret
      rw [HZ.out]
      exact ⟨rfl, ⟨A2, n2, c2, k1.set_ 1 _, k2.chg ((Chg.refl (· = g) w1).setCell (.inl rfl) _) (fun k _ h1 h2 => k5 (h2 ▸ h1)), k3, k4, k5⟩, hC.setCell (.inl rfl) _⟩

end Go.Proofs.YtenjdidjjggefaaGreat
