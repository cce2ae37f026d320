import Derived.Test.YtenjdidjjggefaaGreatResG
namespace Go.Proofs.YtenjdidjjggefaaGreat
open Go.RowKit Go.Shelf Go.Sort

/-- block g is a reader: failed or not, the bytes to come -/
def Rdr (w : World) (g : Nat) (G : Nat → Prop) (bad : Bool) (l : List UInt8) : Prop :=
  ∃ A n c, Blk w g 135 #[.slice A n c, .bool bad, .bool true] ∧ Rd w G A n 1 (bV l) ∧ n ≤ c ∧ n ≤ 1099511627776 ∧ ¬ G g

theorem Rdr.chg {w w' : World} {g : Nat} {G F : Nat → Prop} {bad : Bool} {l : List UInt8} (h : Rdr w g G bad l) (hc : Chg F w w') (hg : ¬ F g) (hF : ∀ k, k < w.heap.size → G k → ¬ F k) : Rdr w' g G bad l := by
  obtain ⟨A, n, c, h1, h2, h3, h4, h5⟩ := h
  exact ⟨A, n, c, h1.chg hc hg, h2.chg hc hF, h3, h4, h5⟩

/-- a value taken off: its bytes, what is left -/
def takeZ (s : Bool × List UInt8) (tag : UInt8) : Option (List UInt8) × (Bool × List UInt8) :=
  if s.1 then (none, s) else match firstL s.2 with
    | none => (none, (true, s.2))
    | some (t, N) => if t = tag then (some ((s.2.drop 5).take N), (false, s.2.drop (5 + N))) else (none, (true, s.2))

def TakeSays (g : Nat) (G : Nat → Prop) (z : Option (List UInt8) × (Bool × List UInt8)) (w : World) (e : Ending) (w' : World) : Prop :=
  (match z.1 with
  | none => e = .returned (.tuple #[.slice none 0 0, .bool false])
  | some b => ∃ A', e = .returned (.tuple #[.slice A' b.length b.length, .bool true]) ∧ Rd w' G A' b.length 1 (bV b)) ∧ Rdr w' g G z.2.1 z.2.2 ∧ Chg (· = g) w w'

theorem firstL_le {l : List UInt8} {t : UInt8} {N : Nat} (h : firstL l = some (t, N)) : 5 + N ≤ l.length := by
  match l, h with
  | [], h => cases h
  | [_], h => cases h
  | [_, _], h => cases h
  | [_, _, _], h => cases h
  | [_, _, _, _], h => cases h
  | t' :: x1 :: x2 :: x3 :: x4 :: rest, h =>
    simp only [firstL] at h
    split at h
    · cases h
    · split at h
      · cases h
      · injection h with h
        injection h with _ h
        simp only [List.length_cons]
        omega

set_option maxRecDepth 100000 in
set_option maxHeartbeats 1000000 in
theorem rdr_there (g : Nat) (v : Value) (bad : Bool) (w : World) (hb : Blk w g 135 #[v, .bool bad, .bool true]) :
    Calls Tryz.prog 96 #[.pointer (some ⟨g, 0, none⟩)] w fun e w' => e = .returned (.bool (!bad)) ∧ w' = w := by
  have h1 := hb.cell 1
  have h2 := hb.cell 2
  simp only [List.getElem?_toArray, List.getElem?_cons_zero, List.getElem?_cons_succ] at h1 h2
  cases bad
  all_goals
    go_enter Tryz.func96, Tryz.ntmps96
    go_wp2
    go_ret
    exact ⟨rfl, rfl⟩

set_option maxRecDepth 100000 in
set_option maxHeartbeats 1000000 in
theorem rdr_Fail (g : Nat) (v : Value) (bad : Bool) (w : World) (hb : Blk w g 135 #[v, .bool bad, .bool true]) :
    Calls Tryz.prog 76 #[.pointer (some ⟨g, 0, none⟩)] w fun e w' => e = .returned (.tuple #[]) ∧ Blk w' g 135 #[v, .bool true, .bool true] ∧ Chg (· = g) w w' := by
  have h1 := hb.cell 1
  have f1 := hb.frozen 1
  simp only [List.getElem?_toArray, List.getElem?_cons_zero, List.getElem?_cons_succ] at h1
  go_enter Tryz.func76, Tryz.ntmps76
  go_wp2
  go_end0
  exact ⟨rfl, hb.set_ 1 _, (Chg.refl (· = g) w).setCell (.inl rfl) _⟩

set_option maxRecDepth 100000 in
set_option maxHeartbeats 1000000 in
theorem rdr_take (g : Nat) (G : Nat → Prop) (bad : Bool) (l : List UInt8) (tag : UInt8) (w : World) (hr : Rdr w g G bad l) :
    Calls Tryz.prog 77 #[.pointer (some ⟨g, 0, none⟩), .int .u8 (tag.toNat : Int)] w (TakeSays g G (takeZ (bad, l) tag) w) := by
  have hr0 := hr
  obtain ⟨A, n, c, hb, hrd, hnc, hn, hg⟩ := hr
  have h0 := hb.cell 0
  have h1 := hb.cell 1
  have f1 := hb.frozen 1
  have f0 := hb.frozen 0
  simp only [List.getElem?_toArray, List.getElem?_cons_zero, List.getElem?_cons_succ] at h0 h1
  cases bad
  · cases hf : firstL l with
    | none =>
      have hz : takeZ (false, l) tag = (none, (true, l)) := by simp [takeZ, hf]
      have HZ := Lib.hid hz
      have HF := Lib.hid hf
      have e0 : ((0 : Int) == 0) = true := rfl
      clear hf hz
      go_enter Tryz.func77, Tryz.ntmps77
      go_wp2_with (first
        | (go_at_call 96; (with_reducible refine (rdr_there g _ _ _ hb).mono ?_); rintro e' w1 ⟨rfl, hq⟩; have hq2 := hq.symm; clear hq; subst hq2)
        | (go_at_call 97; (with_reducible refine (tlv_first A n c l G _ hrd hn hnc).mono ?_); rintro e' w1 ⟨hres, k, rfl⟩; rw [HF.out] at hres; have hres2 : e' = .returned (.tuple #[.int .u8 0, .slice none 0 0, .int .i64 0]) := hres; subst hres2; clear hres; have hb1 : Blk (w.drewN k) g 135 #[.slice A n c, .bool false, .bool true] := hb; have g1 := hb1.cell 1; have g2 := hb1.frozen 1; simp only [List.getElem?_toArray, List.getElem?_cons_zero, List.getElem?_cons_succ] at g1))
      go_ret2
      rw [HZ.out]
      exact ⟨rfl, ⟨A, n, c, hb1.set_ 1 _, hrd.chg (((Chg.refl (· = g) w).drewN k).setCell (.inl rfl) _) (fun k _ h1 h2 => hg (h2 ▸ h1)), hnc, hn, hg⟩, ((Chg.refl (· = g) w).drewN k).setCell (.inl rfl) _⟩
    | some x =>
      obtain ⟨t, N⟩ := x
      have hN := firstL_le hf
      have hln : l.length = n := by have := hrd.1; simp at this; omega
      rw [hln] at hN
      have he0 : (5 + (N : Int) == 0) = false := by simp only [beq_eq_false_iff_ne, ne_eq]; omega
      have hbl : ((l.drop 5).take N).length = N := by simp; omega
      obtain ⟨b, off, rfl, _, _, _⟩ := hrd.2 (by omega)
      by_cases ht : t = tag
      · have hz : takeZ (false, l) tag = (some ((l.drop 5).take N), (false, l.drop (5 + N))) := by simp [takeZ, hf, ht]
        have ht1 : ((t.toNat : Int) != (tag.toNat : Int)) = false := by simp [ht]
        have HZ := Lib.hid hz
        have HF := Lib.hid hf
        have HBL := Lib.hid hbl
        clear hf hz ht hln hbl
        go_enter Tryz.func77, Tryz.ntmps77
        go_wp2_with (first
          | (go_at_call 96; (with_reducible refine (rdr_there g _ _ _ hb).mono ?_); rintro e' w1 ⟨rfl, hq⟩; have hq2 := hq.symm; clear hq; subst hq2)
          | (go_at_call 97; (with_reducible refine (tlv_first _ n c l G _ hrd hn hnc).mono ?_); rintro e' w1 ⟨hres, k, rfl⟩; rw [HF.out] at hres; obtain ⟨A', hres2, hrd2⟩ := hres; subst hres2; have hb1 : Blk (w.drewN k) g 135 #[.slice (some ⟨b, off, none⟩) n c, .bool false, .bool true] := hb; have g1 := hb1.cell 0; have g2 := hb1.frozen 0; simp only [List.getElem?_toArray, List.getElem?_cons_zero] at g1))
        case inl h =>
          go_ret2
          rw [HZ.out]
          have hcut := hrd.cutB (k := 5 + N) (cap := c) hN hnc
          rw [if_pos h] at hcut
          have hch := ((Chg.refl (· = g) w).drewN k).setCell (p := ⟨g, 0, none⟩) (.inl rfl) (.slice (some ⟨b, off, none⟩) (n - (5 + N)) 0)
          refine ⟨⟨A', by rw [HBL.out]; rfl, ?_⟩, ⟨_, _, _, hb1.set_ 0 _, hcut.chg hch (fun k _ h1 h2 => hg (h2 ▸ h1)), by omega, by omega, hg⟩, hch⟩
          rw [HBL.out]
          exact hrd2.chg hch (fun k _ h1 h2 => hg (h2 ▸ h1))
        case inr h =>
          go_ret2
          rw [HZ.out]
          have hcut := hrd.cutB (k := 5 + N) (cap := c) hN hnc
          rw [if_neg h] at hcut
          have hch := ((Chg.refl (· = g) w).drewN k).setCell (p := ⟨g, 0, none⟩) (.inl rfl) (.slice (some ⟨b, off + (5 + N), none⟩) (n - (5 + N)) (c - (5 + N)))
          refine ⟨⟨A', by rw [HBL.out]; rfl, ?_⟩, ⟨_, _, _, hb1.set_ 0 _, hcut.chg hch (fun k _ h1 h2 => hg (h2 ▸ h1)), by omega, by omega, hg⟩, hch⟩
          rw [HBL.out]
          exact hrd2.chg hch (fun k _ h1 h2 => hg (h2 ▸ h1))
      · have hz : takeZ (false, l) tag = (none, (true, l)) := by simp [takeZ, hf, ht]
        have ht1 : ((t.toNat : Int) != (tag.toNat : Int)) = true := by
          simp only [bne_iff_ne, ne_eq]
          intro h
          exact ht (UInt8.toNat_inj.1 (by omega))
        have HZ := Lib.hid hz
        have HF := Lib.hid hf
        clear hf hz ht hln hbl
        go_enter Tryz.func77, Tryz.ntmps77
        go_wp2_with (first
          | (go_at_call 96; (with_reducible refine (rdr_there g _ _ _ hb).mono ?_); rintro e' w1 ⟨rfl, hq⟩; have hq2 := hq.symm; clear hq; subst hq2)
          | (go_at_call 97; (with_reducible refine (tlv_first _ n c l G _ hrd hn hnc).mono ?_); rintro e' w1 ⟨hres, k, rfl⟩; rw [HF.out] at hres; obtain ⟨A', hres2, hrd2⟩ := hres; subst hres2; have hb1 : Blk (w.drewN k) g 135 #[.slice (some ⟨b, off, none⟩) n c, .bool false, .bool true] := hb; have g1 := hb1.cell 1; have g2 := hb1.frozen 1; simp only [List.getElem?_toArray, List.getElem?_cons_zero, List.getElem?_cons_succ] at g1))
        go_ret2
        rw [HZ.out]
        exact ⟨rfl, ⟨_, n, c, hb1.set_ 1 _, hrd.chg (((Chg.refl (· = g) w).drewN k).setCell (.inl rfl) _) (fun k _ h1 h2 => hg (h2 ▸ h1)), hnc, hn, hg⟩, ((Chg.refl (· = g) w).drewN k).setCell (.inl rfl) _⟩
  · have hz : takeZ (true, l) tag = (none, (true, l)) := by simp [takeZ]
    have HZ := Lib.hid hz
    clear hz
    go_enter Tryz.func77, Tryz.ntmps77
    go_wp2_with (first
        | (go_at_call 96; (with_reducible refine (rdr_there g _ _ _ hb).mono ?_); rintro e' w1 ⟨rfl, hq⟩; have hq2 := hq.symm; clear hq; subst hq2))
    go_ret2
    rw [HZ.out]
    exact ⟨rfl, hr0, Chg.refl _ _⟩

end Go.Proofs.YtenjdidjjggefaaGreat
