import Derived.Test.YtenjdidjjggefaaGreatProg
import Derived.WalkKit
import Derived.WalkSpells
import Derived.WalkLawsBesides
import Derived.Lib.Hide
import Derived.Lib.Strings
import Derived.Lib.IndexBytes
namespace Go.Proofs.YtenjdidjjggefaaGreat
open Go.RowKit

/-- is a number a rune? -/
def mayB (r : Int) : Bool := decide (0 ≤ r) && decide (r ≤ 1114111) && (decide (r < 55296) || decide (57343 < r))

/-- how many bytes a rune has -/
def sizeZ (r : Int) : Int := if mayB r = false then 0 else if r < 128 then 1 else if r < 2048 then 2 else if r < 65536 then 3 else 4

set_option maxHeartbeats 400000 in
theorem utf_May (r : Int) (w : World) :
    Calls Tryz.prog 140 #[.int .i32 r] w fun e w' => e = .returned (.bool (mayB r)) ∧ w = w' := by
  go_enter Tryz.func140, Tryz.ntmps140
  go_wp2
  all_goals go_ret
  all_goals refine ⟨?_, rfl⟩
  all_goals simp [mayB, *]
  all_goals omega

theorem mayB_of_not {r : Int} (h : (!mayB r) = true) : mayB r = false := by simpa using h
theorem mayB_of_not' {r : Int} (h : (!mayB r) = false) : mayB r = true := by simpa using h

set_option maxHeartbeats 400000 in
theorem utf_Size (r : Int) (w : World) :
    Calls Tryz.prog 135 #[.int .i32 r] w fun e w' => e = .returned (.int .i64 (sizeZ r)) ∧ w = w' := by
  go_enter Tryz.func135, Tryz.ntmps135
  go_wp2_with (go_at_call 140; refine (utf_May _ _).mono ?_; rintro e w' ⟨rfl, rfl⟩)
  all_goals go_ret
  all_goals refine ⟨?_, rfl⟩
  · have h := mayB_of_not ‹_›
    simp [sizeZ, h]
  all_goals have h := mayB_of_not' ‹_›
  all_goals simp only [sizeZ, h]
  · rw [if_neg (by simp), if_pos (by omega)]; rfl
  · rw [if_neg (by simp), if_neg (by omega), if_pos (by omega)]; rfl
  · rw [if_neg (by simp), if_neg (by omega), if_neg (by omega), if_pos (by omega)]; rfl
  · rw [if_neg (by simp), if_neg (by omega), if_neg (by omega), if_neg (by omega)]; rfl

/-- what a first byte has of a rune, and how many bytes are behind it -/
def headZ (c : Int) : Int × Int :=
  if c < 128 then (c, 0) else if 194 ≤ c ∧ c < 224 then (c % 32, 1) else if 224 ≤ c ∧ c < 240 then (c % 16, 2) else if 240 ≤ c ∧ c < 245 then (c % 8, 3) else (0, -1)

set_option maxRecDepth 100000 in
set_option maxHeartbeats 400000 in
theorem utf_head (c : Int) (h0 : 0 ≤ c) (hc : c < 256) (w : World) :
    Calls Tryz.prog 142 #[.int .u8 c] w fun e w' => e = .returned (.tuple #[.int .i32 (headZ c).1, .int .i64 (headZ c).2]) ∧ w = w' := by
  go_enter Tryz.func142, Tryz.ntmps142
  go_wp2
  all_goals go_ret2
  all_goals refine ⟨?_, rfl⟩
  all_goals unfold headZ
  all_goals repeat (first | rw [if_pos (by omega)] | rw [if_neg (by omega)])
  all_goals rfl

/-- the rest of a rune: so many bytes more -/
def contL : Nat → List UInt8 → Int → Option Int
  | 0, _, r => some r
  | _ + 1, [], _ => none
  | n + 1, b :: l, r => if (b.toNat : Int) / 64 = 2 then contL n l (r * 64 + (b.toNat : Int) % 64) else none

/-- the first rune of bytes, and how many bytes it has -/
def nextL : List UInt8 → Option (Int × Nat)
  | [] => none
  | c :: t =>
    if (headZ c.toNat).2 < 0 then none
    else match contL (headZ c.toNat).2.toNat t (headZ c.toNat).1 with
      | none => none
      | some r => if sizeZ r = (headZ c.toNat).2 + 1 then some (r, (headZ c.toNat).2.toNat + 1) else none

/-- Next's results -/
def nextV : Option (Int × Nat) → Value
  | none => .tuple #[.int .i32 0, .int .i64 0, .int .i64 5]
  | some (r, n) => .tuple #[.int .i32 r, .int .i64 n, .int .i64 0]

theorem contL_short : ∀ (n : Nat) (l : List UInt8) (r : Int), l.length < n → contL n l r = none
  | 0, _, _, h => absurd h (by omega)
  | _ + 1, [], _, _ => rfl
  | n + 1, b :: l, r, h => by
    rw [contL]
    split
    · exact contL_short n l _ (by simpa using h)
    · rfl

theorem headZ_bd (c : Int) (h0 : 0 ≤ c) : -1 ≤ (headZ c).2 ∧ (headZ c).2 ≤ 3 ∧ 0 ≤ (headZ c).1 ∧ ((headZ c).1 < 32 ∨ (headZ c).2 ≤ 0) ∧ (headZ c).1 < 128 := by
  unfold headZ
  (repeat' split) <;> dsimp only <;> omega

theorem data_ne (s : ByteArray) (h : s.size ≠ 0) : s.data.toList = s[0]'(by omega) :: s.data.toList.tail := by
  have h1 : s.data.toList ≠ [] := fun e => h (by rw [Lib.size_eq, e]; rfl)
  obtain ⟨x, t, e⟩ := List.exists_cons_of_ne_nil h1
  have h2 := Lib.data_getElem? s 0 (by omega)
  rw [e] at h2 ⊢
  simp at h2
  simp [h2]

theorem and192 : ∀ x : Fin 256, bits .and .u8 ((x.val : Nat) : Int) 192 = ((x.val : Nat) : Int) / 64 * 64 := by decide +kernel
theorem and192' (x : UInt8) : bits .and .u8 ((x.toNat : Nat) : Int) 192 = ((x.toNat : Nat) : Int) / 64 * 64 := and192 ⟨x.toNat, x.toNat_lt⟩

theorem cont_no (x : UInt8) (hb : ¬ (x.toNat : Int) / 64 = 2) : (bits .and .u8 ((x.toNat : Nat) : Int) 192 != 128) = true := by
  rw [and192', bne_iff_ne]; omega
theorem cont_yes (x : UInt8) (hb : (x.toNat : Int) / 64 = 2) (q : Int) (h0 : 0 ≤ q) (h1 : q < 131072) :
    (bits .and .u8 ((x.toNat : Nat) : Int) 192 != 128) = false ∧ wrap32 ((x.toNat : Int) % 64) = (x.toNat : Int) % 64 ∧ bits .or .i32 (q * 64) ((x.toNat : Int) % 64) = q * 64 + (x.toNat : Int) % 64 := by
  refine ⟨by rw [and192', hb]; rfl, by simp only [wrap32]; omega, i32_or6 _ _ (by omega) (by omega) (by omega) (by omega) (by omega)⟩

set_option maxRecDepth 100000 in
set_option maxHeartbeats 400000 in
theorem utf_Next (s : ByteArray) (hs : s.size ≤ 1048576) (w : World) :
    Calls Tryz.prog 139 #[.string s] w fun e w' => e = .returned (nextV (nextL s.data.toList)) ∧ w = w' := by
  by_cases h0 : s.size = 0
  · have hE : s.toList.isEmpty = true := by
      have e : s.data.toList.length = 0 := by rw [← Lib.size_eq]; exact h0
      rw [Lib.toList_data, List.eq_nil_of_length_eq_zero e]; rfl
    have hn : nextL s.data.toList = none := by
      have : s.data.toList = [] := by rw [Lib.toList_data] at hE; simpa using hE
      rw [this]; rfl
    have HN := Lib.hid hn
    have H0 := Lib.hid h0
    clear hn h0
    go_enter Tryz.func139, Tryz.ntmps139
    go_wp2
    refine wp_scope_jumps 0 (fun a' w' => w' = w ∧ a'.tmps.size = 52 ∧ a'.defers = [] ∧ nextL s.data.toList = none) (fun _ _ => 0) rfl ?_ ?_
    · go_wp2
      go_step3
      exact ⟨rfl, rfl, rfl, rfl, HN.out⟩
    · rintro a w' ⟨rfl, h1, h2, h3⟩
      obtain ⟨T, D⟩ := a
      obtain rfl : D = [] := h2
      go_wp2
      simp only [Exit.jump]
      refine bodyPost_ret (v := nextV (nextL s.data.toList)) ?_ rfl ⟨rfl, rfl⟩
      rw [h3]
      simp [results, Tryz.results139, nextV, h1]
  · have hE : s.toList.isEmpty = false := by rw [Lib.toList_data, data_ne s h0]; rfl
    have hp : 0 < s.size := by omega
    have hd := data_ne s h0
    generalize ht : s.data.toList.tail = t at hd
    have hlt : t.length + 1 = s.size := by rw [Lib.size_eq, hd]; rfl
    have hti : ∀ i (h : i + 1 < s.size), t[i]? = some (s[i + 1]'h) := by
      intro i h
      have := Lib.data_getElem? s (i + 1) h
      rw [hd] at this
      simpa using this
    have hc0 : (0 : Int) ≤ (s[0].toNat : Int) := by omega
    have hc1 : (s[0].toNat : Int) < 256 := by have := s[0].toNat_lt; omega
    obtain ⟨hm0, hm1, hr0, hr1, hr2⟩ := headZ_bd _ hc0
    obtain ⟨hz, hhz⟩ : ∃ z, headZ (s[0].toNat : Int) = z := ⟨_, rfl⟩
    obtain ⟨r0, m⟩ := hz
    rw [hhz] at hm0 hm1 hr0 hr1 hr2
    dsimp only at hm0 hm1 hr0 hr1 hr2
    have hN : nextL s.data.toList = if m < 0 then none else match contL m.toNat t r0 with | none => none | some r => if sizeZ r = m + 1 then some (r, m.toNat + 1) else none := by
      rw [hd]; simp only [nextL, hhz]
    have HN := Lib.hid hN
    have HH := Lib.hid hhz
    have HD := Lib.hid hd
    have HL := Lib.hid hlt
    have HT := Lib.hid hti
    have HT' := Lib.hid ht
    have hlt' : t.length + 1 ≤ s.size := by omega
    have hlt'' : s.size ≤ t.length + 1 := by omega
    clear hN hhz hd hlt hti ht
    go_enter Tryz.func139, Tryz.ntmps139
    go_wp2
    refine wp_scope_jumps 0 (fun a' w' => w' = w ∧ a'.tmps.size = 52 ∧ a'.defers = [] ∧ nextL s.data.toList = none) (fun _ _ => 0) rfl ?_ ?_
    · go_wp2_with (go_at_call 142; refine (utf_head _ (by omega) (by omega) _).mono ?_; rintro e w' ⟨rfl, rfl⟩; rw [HH.out])
      · go_step3
        refine ⟨rfl, rfl, rfl, rfl, ?_⟩
        have hx : contL m.toNat t r0 = none := contL_short _ _ _ (by omega)
        rw [HN.out, if_neg (by omega), hx]
      · go_loop [5, 25] (fun r k => ∃ (j : Nat) (q : Int), (j : Int) ≤ m ∧ k = .int .i64 j ∧ r = .int .i32 q ∧ 0 ≤ q ∧ (j = 0 ∧ (q < 32 ∨ m ≤ 0) ∨ j = 1 ∧ q < 2048 ∨ j = 2 ∧ q < 131072 ∨ j = 3) ∧ q < 8388608 ∧ contL m.toNat t r0 = contL (m.toNat - j) (t.drop j) q) (fun _ k => (m - intOf k).toNat)
        case atStart => exact ⟨0, r0, by omega, rfl, rfl, hr0, by omega, by omega, by simp⟩
        case round =>
          obtain ⟨j, q, hj, rfl, rfl, hq0, hq1, hq2, hq3⟩ := hrel
          have HQ := Lib.hid hq3
          clear hq3
          by_cases hlt : (j : Int) < m
          · have hjs : j + 1 < s.size := by omega
            have hb0 : (0 : Int) ≤ (s[j + 1].toNat : Int) := by omega
            have hb1 : (s[j + 1].toNat : Int) < 256 := by have := s[j + 1].toNat_lt; omega
            have ht := HT.out j hjs
            have hdr : t.drop j = s[j + 1] :: t.drop (j + 1) := by
              rw [List.drop_eq_getElem_cons (by omega)]
              rw [List.getElem?_eq_getElem (by omega)] at ht
              rw [Option.some.inj ht]
            have hm1' : m.toNat - j = (m.toNat - (j + 1)) + 1 := by omega
            have hq4 : contL m.toNat t r0 = if (s[j + 1].toNat : Int) / 64 = 2 then contL (m.toNat - (j + 1)) (t.drop (j + 1)) (q * 64 + (s[j + 1].toNat : Int) % 64) else none := by
              rw [HQ.out, hdr, hm1', contL]
            have HQ4 := Lib.hid hq4
            clear ht hdr hm1' hq4
            by_cases hb : (s[j + 1].toNat : Int) / 64 = 2
            · obtain ⟨e2, e3, e4⟩ := cont_yes s[j + 1] hb q hq0 (by omega)
              have HB := Lib.hid hb
              clear hb
              go_wp2
              go_round
              case rel =>
                clear e2 e3 e4
                refine ⟨j + 1, q * 64 + (s[j + 1].toNat : Int) % 64, by omega, by go_num, rfl, by omega, by omega, by omega, ?_⟩
                rw [HQ4.out, if_pos HB.out]
              case measure => clear e2 e3 e4; simp [intOf]; omega
            · have e2 := cont_no s[j + 1] hb
              have HB := Lib.hid hb
              clear hb
              go_wp2
              go_step3
              refine ⟨rfl, rfl, rfl, rfl, ?_⟩
              rw [HN.out, if_neg (by omega), HQ4.out, if_neg HB.out]
          · have hjm : (j : Int) = m := by omega
            have hq5 : contL m.toNat t r0 = some q := by
              rw [HQ.out, show m.toNat - j = 0 from by omega, contL]
            have hN2 : nextL s.data.toList = if sizeZ q = m + 1 then some (q, m.toNat + 1) else none := by
              rw [HN.out, if_neg (by omega), hq5]
            have HN2 := Lib.hid hN2
            have HJ := Lib.hid hjm
            clear hN2 hq5 hjm
            by_cases hz : sizeZ q = m + 1
            · have hz' : (sizeZ q == m + 1) = true := by simpa using hz
              have HZ := Lib.hid hz
              clear hz
              go_wp2_with (go_at_call 135; refine (utf_Size _ _).mono ?_; rintro e w' ⟨rfl, rfl⟩)
              simp only [Exit.jump]
              refine bodyPost_ret (v := nextV (nextL s.data.toList)) ?_ rfl ⟨rfl, rfl⟩
              rw [HN2.out, if_pos HZ.out]
              simp [results, Tryz.results139, nextV]
              omega
            · have hz' : (sizeZ q == m + 1) = false := by simpa using hz
              have HZ := Lib.hid hz
              clear hz
              go_wp2_with (go_at_call 135; refine (utf_Size _ _).mono ?_; rintro e w' ⟨rfl, rfl⟩)
              go_step3
              go_wp2
              simp only [Exit.jump]
              refine bodyPost_ret (v := nextV (nextL s.data.toList)) ?_ rfl ⟨rfl, rfl⟩
              rw [HN2.out, if_neg HZ.out]
              simp [results, Tryz.results139, nextV]
      · go_step3
        refine ⟨rfl, rfl, rfl, rfl, ?_⟩
        rw [HN.out, if_pos (by omega)]
    · rintro a w' ⟨rfl, h1, h2, h3⟩
      obtain ⟨T, D⟩ := a
      obtain rfl : D = [] := h2
      go_wp2
      simp only [Exit.jump]
      refine bodyPost_ret (v := nextV (nextL s.data.toList)) ?_ rfl ⟨rfl, rfl⟩
      rw [h3]
      simp [results, Tryz.results139, nextV, h1]

end Go.Proofs.YtenjdidjjggefaaGreat
