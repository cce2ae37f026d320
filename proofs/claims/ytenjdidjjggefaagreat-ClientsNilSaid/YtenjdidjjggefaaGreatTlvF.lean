import Derived.Test.YtenjdidjjggefaaGreatTlvX
namespace Go.Proofs.YtenjdidjjggefaaGreat
open Go.RowKit Go.Shelf

/-- the number of four bytes -/
def nat4 (a b c d : UInt8) : Nat := a.toNat * 16777216 + b.toNat * 65536 + c.toNat * 256 + d.toNat

/-- the tag of the first value of bytes, and how many bytes it has -/
def firstL : List UInt8 → Option (UInt8 × Nat)
  | t :: a :: b :: c :: d :: rest => if t = 0 then none else if 4194304 < nat4 a b c d ∨ rest.length < nat4 a b c d then none else some (t, nat4 a b c d)
  | _ => none

theorem wraps_i64 (n : Int) (h₀ : 0 ≤ n) (h₁ : n < 2 ^ 62) : IntKind.i64.wrap n = n := by rw [IntKind.wrap_i64]; omega
theorem or_nat4 (a b c d : UInt8) :
    bits .or .i64 (bits .or .i64 (bits .or .i64 ((a.toNat : Int) * 16777216) ((b.toNat : Int) * 65536)) ((c.toNat : Int) * 256)) (d.toNat : Int) = (nat4 a b c d : Int) := by
  have ha := a.toNat_lt
  have hb := b.toNat_lt
  have hc := c.toNat_lt
  have hd := d.toNat_lt
  rw [bits_join .i64 62 (by decide) wraps_i64 24 ((a.toNat : Int) * 16777216) ((b.toNat : Int) * 65536) (by omega) (by omega) (by omega) (by omega) (by omega) (by omega)]
  rw [bits_join .i64 62 (by decide) wraps_i64 16 ((a.toNat : Int) * 16777216 + (b.toNat : Int) * 65536) ((c.toNat : Int) * 256) (by omega) (by omega) (by omega) (by omega) (by omega) (by omega)]
  rw [bits_join .i64 62 (by decide) wraps_i64 8 _ _ (by omega) (by omega) (by omega) (by omega) (by omega) (by omega)]
  simp only [nat4]
  omega

theorem u8_ne (t : UInt8) (ht : ¬ t = 0) : ((t.toNat : Int) == 0) = false := by
  simp only [beq_eq_false_iff_ne, ne_eq]
  intro h
  exact ht (UInt8.toNat_inj.1 (by simp; omega))

set_option maxRecDepth 100000 in
set_option maxHeartbeats 1000000 in
theorem tlv_first_some (b off n cp : Nat) (t x1 x2 x3 x4 : UInt8) (N : Nat) (w : World)
    (hn : 5 ≤ n) (hnM : n ≤ 1099511627776) (hnc : n ≤ cp) (hN : nat4 x1 x2 x3 x4 = N) (hN1 : (N : Int) ≤ 4194304) (hN2 : (N : Int) ≤ (n : Int) - 5)
    (c0 : w.cell? ⟨b, off, none⟩ = some (.int .u8 (t.toNat : Int))) (c1 : w.cell? ⟨b, off + 1, none⟩ = some (.int .u8 (x1.toNat : Int))) (c2 : w.cell? ⟨b, off + 2, none⟩ = some (.int .u8 (x2.toNat : Int)))
    (c3 : w.cell? ⟨b, off + 3, none⟩ = some (.int .u8 (x3.toNat : Int))) (c4 : w.cell? ⟨b, off + 4, none⟩ = some (.int .u8 (x4.toNat : Int))) (ht : ¬ t = 0) :
    Calls Tryz.prog 97 #[.slice (some ⟨b, off, none⟩) n cp] w fun e w' => e = .returned (.tuple #[.int .u8 (t.toNat : Int), .slice (if N = 0 then some ⟨b, off, none⟩ else some ⟨b, off + 5, none⟩) N N, .int .i64 (5 + (N : Int))]) ∧ ∃ k, w' = w.drewN k := by
  have ht' := u8_ne t ht
  have hn1 : (0 : Int) < (n : Int) := by omega
  have hn2 : (1 : Int) < (n : Int) := by omega
  have hn3 : (2 : Int) < (n : Int) := by omega
  have hn4 : (3 : Int) < (n : Int) := by omega
  have hn5 : (4 : Int) < (n : Int) := by omega
  have hn6 : (5 : Int) ≤ (n : Int) := by omega
  have b1 : (x1.toNat : Int) < 256 := by have := x1.toNat_lt; omega
  have b2 : (x2.toNat : Int) < 256 := by have := x2.toNat_lt; omega
  have b3 : (x3.toNat : Int) < 256 := by have := x3.toNat_lt; omega
  have b4 : (x4.toNat : Int) < 256 := by have := x4.toNat_lt; omega
  have hor := or_nat4 x1 x2 x3 x4
  rw [hN] at hor
  clear hN ht
  go_enter Tryz.func97, Tryz.ntmps97
  go_wp2
  go_quiet (fail)
  go_wp2
  have e1 : IntKind.i64.wrap (5 + (N : Int)) = 5 + (N : Int) := IntWalk.i64_in _ (by omega)
  have e2 : 0 ≤ 5 + (N : Int) := by omega
  have e3 : (5 + (N : Int)).toNat = 5 + N := by omega
  have e4 : 5 + (N : Int) ≤ (cp : Int) := by omega
  have e5 : (5 : Int) ≤ 5 + (N : Int) := by omega
  go_quiet (fail)
  clear e1 e2 e3 e4 e5
  go_wp2
  all_goals go_ret3
  all_goals exact ⟨rfl, _, rfl⟩

set_option maxRecDepth 100000 in
set_option maxHeartbeats 1000000 in
theorem tlv_first_long (b off n cp : Nat) (t x1 x2 x3 x4 : UInt8) (N : Nat) (w : World)
    (hn : 5 ≤ n) (hcp : n ≤ 1099511627776) (hN : nat4 x1 x2 x3 x4 = N) (hN1 : 4194304 < (N : Int) ∨ (n : Int) - 5 < (N : Int))
    (c0 : w.cell? ⟨b, off, none⟩ = some (.int .u8 (t.toNat : Int))) (c1 : w.cell? ⟨b, off + 1, none⟩ = some (.int .u8 (x1.toNat : Int))) (c2 : w.cell? ⟨b, off + 2, none⟩ = some (.int .u8 (x2.toNat : Int)))
    (c3 : w.cell? ⟨b, off + 3, none⟩ = some (.int .u8 (x3.toNat : Int))) (c4 : w.cell? ⟨b, off + 4, none⟩ = some (.int .u8 (x4.toNat : Int))) (ht : ¬ t = 0) :
    Calls Tryz.prog 97 #[.slice (some ⟨b, off, none⟩) n cp] w fun e w' => e = .returned (.tuple #[.int .u8 0, .slice none 0 0, .int .i64 0]) ∧ ∃ k, w' = w.drewN k := by
  have ht' := u8_ne t ht
  have hn1 : (0 : Int) < (n : Int) := by omega
  have hn2 : (1 : Int) < (n : Int) := by omega
  have hn3 : (2 : Int) < (n : Int) := by omega
  have hn4 : (3 : Int) < (n : Int) := by omega
  have hn5 : (4 : Int) < (n : Int) := by omega
  have hn6 : (5 : Int) ≤ (n : Int) := by omega
  have b1 : (x1.toNat : Int) < 256 := by have := x1.toNat_lt; omega
  have b2 : (x2.toNat : Int) < 256 := by have := x2.toNat_lt; omega
  have b3 : (x3.toNat : Int) < 256 := by have := x3.toNat_lt; omega
  have b4 : (x4.toNat : Int) < 256 := by have := x4.toNat_lt; omega
  have hor := or_nat4 x1 x2 x3 x4
  rw [hN] at hor
  clear hN ht
  by_cases hN2 : 4194304 < (N : Int)
  · clear hN1
    go_enter Tryz.func97, Tryz.ntmps97
    go_wp2
    go_quiet (fail)
    go_wp2
    go_ret3
    exact ⟨rfl, _, rfl⟩
  · have hN3 : (n : Int) - 5 < (N : Int) := by omega
    have hN4 : (N : Int) ≤ 4194304 := by omega
    clear hN1 hN2
    go_enter Tryz.func97, Tryz.ntmps97
    go_wp2
    go_quiet (fail)
    go_wp2
    go_ret3
    exact ⟨rfl, _, rfl⟩

set_option maxRecDepth 100000 in
set_option maxHeartbeats 1000000 in
theorem tlv_first_zero (b off n cp : Nat) (w : World) (hn : 5 ≤ n) (hcp : n ≤ 1099511627776) (c0 : w.cell? ⟨b, off, none⟩ = some (.int .u8 0)) :
    Calls Tryz.prog 97 #[.slice (some ⟨b, off, none⟩) n cp] w fun e w' => e = .returned (.tuple #[.int .u8 0, .slice none 0 0, .int .i64 0]) ∧ ∃ k, w' = w.drewN k := by
  have hn1 : (0 : Int) < (n : Int) := by omega
  have hn6 : (5 : Int) ≤ (n : Int) := by omega
  go_enter Tryz.func97, Tryz.ntmps97
  go_wp2
  go_ret3
  exact ⟨rfl, 0, rfl⟩

set_option maxRecDepth 100000 in
set_option maxHeartbeats 1000000 in
theorem tlv_first_short (A : Option Addr) (n cp : Nat) (w : World) (hn : (n : Int) < 5) :
    Calls Tryz.prog 97 #[.slice A n cp] w fun e w' => e = .returned (.tuple #[.int .u8 0, .slice none 0 0, .int .i64 0]) ∧ ∃ k, w' = w.drewN k := by
  go_enter Tryz.func97, Tryz.ntmps97
  go_wp2
  go_ret3
  exact ⟨rfl, 0, rfl⟩

theorem five_of : ∀ (l : List UInt8), 5 ≤ l.length → ∃ t x1 x2 x3 x4 rest, l = t :: x1 :: x2 :: x3 :: x4 :: rest
  | t :: x1 :: x2 :: x3 :: x4 :: rest, _ => ⟨t, x1, x2, x3, x4, rest, rfl⟩
  | [], h => by simp at h
  | [_], h => by simp at h
  | [_, _], h => by simp at h
  | [_, _, _], h => by simp at h
  | [_, _, _, _], h => by simp at h

/-- first's answer where there is no value -/
def noFirst : Value := .tuple #[.int .u8 0, .slice none 0 0, .int .i64 0]

/-- first's answer: the tag, the value's bytes, how many bytes it takes -/
def FirstSays (w : World) (G : Nat → Prop) (l : List UInt8) (e : Ending) (w' : World) : Prop :=
  (match firstL l with
  | none => e = .returned noFirst
  | some (t, N) => ∃ A', e = .returned (.tuple #[.int .u8 (t.toNat : Int), .slice A' N N, .int .i64 (5 + (N : Int))]) ∧ Rd w G A' N 1 (bV ((l.drop 5).take N))) ∧ ∃ k, w' = w.drewN k

theorem tlv_first (A : Option Addr) (n c : Nat) (l : List UInt8) (G : Nat → Prop) (w : World) (hr : Rd w G A n 1 (bV l)) (hnM : n ≤ 1099511627776) (hnc : n ≤ c) :
    Calls Tryz.prog 97 #[.slice A n c] w (FirstSays w G l) := by
  have hnl : n = l.length := by have := hr.1; simpa using this.symm
  by_cases h5 : n < 5
  · refine (tlv_first_short A n c w (by omega)).mono ?_
    rintro e w' ⟨rfl, hk⟩
    refine ⟨?_, hk⟩
    have hf : firstL l = none := by
      match l, hnl with
      | [], _ => rfl
      | [_], _ => rfl
      | [_, _], _ => rfl
      | [_, _, _], _ => rfl
      | [_, _, _, _], _ => rfl
      | _ :: _ :: _ :: _ :: _ :: _, h => simp at h; omega
    rw [hf]; rfl
  · obtain ⟨b, off, rfl, hG, hlt, hcell⟩ := hr.2 (by omega)
    obtain ⟨t, x1, x2, x3, x4, rest, rfl⟩ := five_of l (by omega)
    · have c0 := hcell 0 (.int .u8 (t.toNat : Int)) rfl
      have c1 := hcell 1 (.int .u8 (x1.toNat : Int)) rfl
      have c2 := hcell 2 (.int .u8 (x2.toNat : Int)) rfl
      have c3 := hcell 3 (.int .u8 (x3.toNat : Int)) rfl
      have c4 := hcell 4 (.int .u8 (x4.toNat : Int)) rfl
      simp only [Nat.add_zero] at c0
      have hlen : n = rest.length + 5 := by simpa using hnl
      by_cases ht : t = 0
      · subst ht
        refine (tlv_first_zero b off n c w (by omega) (by omega) c0).mono ?_
        rintro e w' ⟨rfl, hk⟩
        exact ⟨by simp [firstL, noFirst], hk⟩
      · by_cases hN : 4194304 < nat4 x1 x2 x3 x4 ∨ rest.length < nat4 x1 x2 x3 x4
        · refine (tlv_first_long b off n c t x1 x2 x3 x4 _ w (by omega) (by omega) rfl (by omega) c0 c1 c2 c3 c4 ht).mono ?_
          rintro e w' ⟨rfl, hk⟩
          exact ⟨by simp only [firstL, if_neg ht, if_pos hN]; rfl, hk⟩
        · refine (tlv_first_some b off n c t x1 x2 x3 x4 _ w (by omega) hnM hnc rfl (by omega) (by omega) c0 c1 c2 c3 c4 ht).mono ?_
          rintro e w' ⟨rfl, hk⟩
          refine ⟨?_, hk⟩
          simp only [firstL, if_neg ht, if_neg hN]
          refine ⟨_, rfl, ?_⟩
          have h2 := (hr.cut (k := 5) (cap := n + 1) (by omega) (by omega)).take (k := nat4 x1 x2 x3 x4) (by omega)
          refine ⟨by simp; omega, fun hpos => ⟨b, off + 5, by rw [if_neg (by omega)], hG, hlt, fun j u hu => ?_⟩⟩
          obtain ⟨b', off', e', _, _, hc'⟩ := h2.2 hpos
          rw [if_neg (by omega)] at e'
          obtain ⟨rfl, rfl⟩ : b = b' ∧ off + 5 = off' := by simpa [Addr.add] using e'
          exact hc' j u (by simpa [bV, List.map_take, List.map_drop] using hu)

end Go.Proofs.YtenjdidjjggefaaGreat
