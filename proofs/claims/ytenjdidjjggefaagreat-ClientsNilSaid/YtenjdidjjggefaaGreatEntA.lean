import Derived.Test.YtenjdidjjggefaaGreatTlvL
import Derived.Test.YtenjdidjjggefaaGreatWhere
import Derived.Test.YtenjdidjjggefaaGreatShelf
namespace Go.Proofs.YtenjdidjjggefaaGreat
open Go.RowKit Go.Shelf

/-- may a name, or a value, be? -/
def mayNameL (l : List UInt8) : Bool := decide (l.length ≤ 1000) && validL l

set_option maxHeartbeats 400000 in
theorem entry_MayName (s : ByteArray) (w : World) :
    Calls Tryz.prog 90 #[.string s] w fun e w' => e = .returned (.bool (mayNameL s.data.toList)) ∧ Below w.heap.size w w' := by
  by_cases h : (s.size : Int) ≤ 1000
  · have hr : mayNameL s.data.toList = validL s.data.toList := by
      rw [mayNameL, decide_eq_true (by rw [← Lib.size_eq]; omega), Bool.true_and]
    have HR := Lib.hid hr
    clear hr
    go_enter Tryz.func90, Tryz.ntmps90
    go_wp2_with (go_at_call 113; (with_reducible refine (utf_Valid _ (by omega) _).mono ?_); rintro e w' ⟨rfl, hb⟩)
    go_ret
    exact ⟨by rw [HR.out]; rfl, ‹_›⟩
  · have hr : mayNameL s.data.toList = false := by
      rw [mayNameL, decide_eq_false (by rw [← Lib.size_eq]; omega), Bool.false_and]
    have HR := Lib.hid hr
    clear hr
    go_enter Tryz.func90, Tryz.ntmps90
    go_wp2
    go_ret
    exact ⟨by rw [HR.out]; rfl, Below.refl _ _⟩

def smallB (c : Int) : Bool := decide (97 ≤ c) && decide (c ≤ 122)
def typeB (c : Int) : Bool := smallB c || (c == 45) || (decide (48 ≤ c) && decide (c ≤ 57))
/-- may a type be? -/
def mayTypeL (l : List UInt8) : Bool := decide (1 ≤ l.length) && decide (l.length ≤ 32) && smallB ((l.headD 0).toNat : Int) && l.all fun c => typeB (c.toNat : Int)

theorem mayType1 (c : Int) (w : World) :
    Calls Tryz.prog 136 #[.int .u8 c] w fun e w' => e = .returned (.bool (smallB c)) ∧ w = w' := by
  go_enter Tryz.func136, Tryz.ntmps136
  go_wp2
  all_goals go_ret
  all_goals refine ⟨?_, rfl⟩
  all_goals simp [smallB, *]
  all_goals omega

theorem all_take_succ (l : List UInt8) (f : UInt8 → Bool) (k : Nat) (h : k < l.length) : (l.take (k + 1)).all f = ((l.take k).all f && f l[k]) := by
  rw [List.take_succ_eq_append_getElem h, List.all_append]; simp

set_option maxRecDepth 100000 in
set_option maxHeartbeats 1000000 in
theorem entry_mayType (s : ByteArray) (w : World) :
    Calls Tryz.prog 127 #[.string s] w fun e w' => e = .returned (.bool (mayTypeL s.data.toList)) ∧ w = w' := by
  by_cases h1 : (s.size : Int) < 1
  · have hr : mayTypeL s.data.toList = false := by
      rw [mayTypeL, decide_eq_false (by rw [← Lib.size_eq]; omega)]; rfl
    have h0 : ((s.size : Int) == 0) = true := beq_iff_eq.2 (by omega)
    have HR := Lib.hid hr
    clear hr
    go_enter Tryz.func127, Tryz.ntmps127
    go_wp2
    refine wp_loop_once ?_
    go_wp2
    go_ret
    exact ⟨by rw [HR.out]; rfl, rfl⟩
  · by_cases h2 : (s.size : Int) ≤ 32
    · have hp : 0 < s.size := by omega
      have hr : mayTypeL s.data.toList = (smallB (s[0].toNat : Int) && s.data.toList.all fun c => typeB (c.toNat : Int)) := by
        have hd := data_ne s (by omega)
        have hh : s.data.toList.headD 0 = s[0] := by rw [hd]; rfl
        rw [mayTypeL, decide_eq_true (by rw [← Lib.size_eq]; omega), decide_eq_true (by rw [← Lib.size_eq]; omega), hh]
        simp
      have hall : s.data.toList.take s.size = s.data.toList := by rw [Lib.size_eq, List.take_length]
      have hget : ∀ k (h : k < s.size), (s.data.toList.take (k + 1)).all (fun c => typeB (c.toNat : Int)) = ((s.data.toList.take k).all (fun c => typeB (c.toNat : Int)) && typeB (s[k].toNat : Int)) := by
        intro k h
        have hk : k < s.data.toList.length := by rw [← Lib.size_eq]; exact h
        rw [all_take_succ _ _ k hk]
        have := Lib.data_getElem? s k h
        rw [List.getElem?_eq_getElem hk] at this
        rw [Option.some.inj this]
      have HR := Lib.hid hr
      have HA := Lib.hid hall
      have HG := Lib.hid hget
      obtain ⟨g0, hg0⟩ : ∃ g0, smallB (s[0].toNat : Int) = g0 := ⟨_, rfl⟩
      have HG0 := Lib.hid hg0
      clear hr hall hget hg0
      go_enter Tryz.func127, Tryz.ntmps127
      go_wp2_with (go_at_call 136; (with_reducible refine (mayType1 _ _).mono ?_); rintro e w' ⟨rfl, rfl⟩; rw [HG0.out])
      go_loop [4, 26] (fun g k => ∃ (j : Nat) (b : Bool), g = .bool b ∧ k = .int .i64 j ∧ j ≤ s.size ∧ Hid (b = (g0 && (s.data.toList.take j).all fun c => typeB (c.toNat : Int)))) (fun _ k => s.size - (intOf k).toNat)
      case atStart => exact ⟨0, g0, rfl, rfl, by omega, by show _ = _; simp⟩
      case round =>
        obtain ⟨j, b, rfl, rfl, hj, hb⟩ := hrel
        by_cases hlt : j < s.size
        · obtain ⟨b2, hb2⟩ : ∃ b2, (b && typeB (s[j].toNat : Int)) = b2 := ⟨_, rfl⟩
          have hb3 : b2 = (g0 && (s.data.toList.take (j + 1)).all fun c => typeB (c.toNat : Int)) := by
            rw [← hb2, HG.out j hlt, ← Bool.and_assoc, ← hb.out]
          have HB3 := Lib.hid hb3
          have HB2 := Lib.hid hb2
          clear hb2 hb3
          have hc0 : (0 : Int) ≤ (s[j].toNat : Int) := by omega
          cases b
          · go_wp2
            go_round
            case rel => exact ⟨j + 1, b2, by have := HB2.out; simpa using this, by go_num, by omega, HB3⟩
            case measure => simp [intOf]; omega
          · cases hs : smallB (s[j].toNat : Int)
            · have HS := Lib.hid hs
              clear hs
              go_wp2_with (go_at_call 136; (with_reducible refine (mayType1 _ _).mono ?_); rintro e w' ⟨rfl, rfl⟩; rw [HS.out])
              all_goals go_round
              case rel => refine ⟨j + 1, b2, ?_, by go_num, by omega, HB3⟩; rw [← HB2.out]; simp [typeB, *]
              case measure => simp [intOf]; omega
              case rel => refine ⟨j + 1, b2, ?_, by go_num, by omega, HB3⟩; rw [← HB2.out]; simp [typeB, HS.out, *]
              case measure => simp [intOf]; omega
              case rel => refine ⟨j + 1, b2, ?_, by go_num, by omega, HB3⟩; rw [← HB2.out]; simp [typeB, HS.out, *]
              case measure => simp [intOf]; omega
            · have HS := Lib.hid hs
              clear hs
              go_wp2_with (go_at_call 136; (with_reducible refine (mayType1 _ _).mono ?_); rintro e w' ⟨rfl, rfl⟩; rw [HS.out])
              go_round
              case rel => exact ⟨j + 1, b2, by have := HB2.out; simpa [typeB, HS.out] using this, by go_num, by omega, HB3⟩
              case measure => simp [intOf]; omega
        · obtain rfl : j = s.size := by omega
          have hf : (g0 && s.data.toList.all fun c => typeB (c.toNat : Int)) = b := by have := hb.out; rw [HA.out] at this; exact this.symm
          have HF := Lib.hid hf
          clear hf
          cases b
          · go_wp2
            go_ret
            exact ⟨by rw [HR.out, HG0.out, HF.out]; rfl, rfl⟩
          · go_wp2
            go_ret
            exact ⟨by rw [HR.out, HG0.out, HF.out]; rfl, rfl⟩
    · have hr : mayTypeL s.data.toList = false := by
        rw [mayTypeL, decide_eq_false (p := s.data.toList.length ≤ 32) (by rw [← Lib.size_eq]; omega)]; simp
      have h0 : ((s.size : Int) == 0) = false := beq_eq_false_iff_ne.2 (by omega)
      have HR := Lib.hid hr
      clear hr
      go_enter Tryz.func127, Tryz.ntmps127
      go_wp2
      go_ret
      exact ⟨by rw [HR.out]; rfl, rfl⟩

end Go.Proofs.YtenjdidjjggefaaGreat
