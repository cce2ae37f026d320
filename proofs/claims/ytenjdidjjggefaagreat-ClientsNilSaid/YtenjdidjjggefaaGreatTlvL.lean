import Derived.Test.YtenjdidjjggefaaGreatMany
namespace Go.Proofs.YtenjdidjjggefaaGreat
open Go.RowKit Go.Shelf

/-- an inner writer behind the items i, i + 1, .. (so many) -/
def itemsZ (stp : Nat → Int × List UInt8 → Int × List UInt8) : Nat → Nat → Int × List UInt8 → Int × List UInt8
  | 0, _, s => s
  | k + 1, i, s => if (stp i s).1 ≠ 0 ∨ manyZ ((stp i s).2.drop s.2.length) ≠ 1 then (failZ (stp i s).1 2, (stp i s).2) else itemsZ stp k (i + 1) (stp i s)
/-- a writer behind a list -/
def listZ (s : Int × List UInt8) (tag : UInt8) (n : Nat) (stp : Nat → Int × List UInt8 → Int × List UInt8) : Int × List UInt8 :=
  if s.1 ≠ 0 then s else if (itemsZ stp n 0 (0, [])).1 ≠ 0 then ((itemsZ stp n 0 (0, [])).1, s.2) else putZ s tag (itemsZ stp n 0 (0, [])).2

/-- what a list's put is asked -/
def PutOk (P : Program) (pf : Nat) (caps : Array Value) (n : Nat) (stp : Nat → Int × List UInt8 → Int × List UInt8) (w : World) : Prop :=
  ∀ (i : Nat) (W : World) (g : Nat) (F : Nat → Prop) (b : Int) (l : List UInt8), i < n → Below w.heap.size w W → Wr W g F b l → (∀ k, F k → w.heap.size ≤ k ∧ k < W.heap.size) → l.length ≤ 1073741824 →
    Calls P pf (#[.pointer (some ⟨g, 0, none⟩), .int .i64 i] ++ caps) W fun e W' => e = .returned (.tuple #[]) ∧ Wr W' g (fun k => F k ∨ W.heap.size ≤ k) (stp i (b, l)).1 (stp i (b, l)).2 ∧ Chg F W W'

theorem list_end_fail {w w4 w5 : World} {g : Nat} {F : Nat → Prop} {v : Value} {l : List UInt8} {b2 : Int} (hb : Blk w g 125 #[v, .int .i64 0]) (ho : w.ownsRow 0 5 1 v l.length (bV l)) (hFg : F g) (hFv : ∀ k, v.ownBlock = some k → F k)
    (hB4 : Below w.heap.size w w4) (hb5 : Blk w5 g 125 #[v, .int .i64 b2]) (hc5 : Chg (· = g) w4 w5) : Wr w5 g (fun k => F k ∨ w.heap.size ≤ k) b2 l ∧ Chg F w w5 := by
  have hc : Chg F w w5 := (Chg.of_below' hB4 F).trans hc5 (fun k hk => .inl (hk ▸ hFg))
  refine ⟨⟨v, hb5, ?_, .inl hFg, fun k hk => .inl (hFv k hk)⟩, hc⟩
  have h4 : w4.ownsRow 0 5 1 v l.length (bV l) := own_chg ho (Chg.of_below' hB4 (fun _ => False)) (fun _ _ h => h)
  exact own_chg h4 hc5 (fun k hk e => own_blk_ne ho hb (by decide) (e ▸ hk))

theorem und_put : Tryz.prog.underlying 131 = some (.func #[123, 3] #[] false) := by kernel_rfl

set_option maxRecDepth 100000 in
set_option maxHeartbeats 2000000 in
theorem tlv_List (g : Nat) (F : Nat → Prop) (bad : Int) (l : List UInt8) (tag : UInt8) (n L pf : Nat) (caps : Array Value) (stp : Nat → Int × List UInt8 → Int × List UInt8) (w : World)
    (hw : Wr w g F bad l) (hl : l.length ≤ 1073741824) (hF : ∀ k, F k → k < w.heap.size) (heg : ∀ args W, (callFunc pf args).run Tryz.prog W = .ok (.enter pf args) W) (hput : PutOk Tryz.prog pf caps n stp w) (hn : n ≤ 1048576)
    (hst : ∀ i s, i < n → s.2.length ≤ (stp i s).2.length ∧ (stp i s).2.length ≤ s.2.length + L) (hL : n * L ≤ 1073741824) :
    Calls Tryz.prog 69 #[.pointer (some ⟨g, 0, none⟩), .int .u8 (tag.toNat : Int), .int .i64 n, .func (.func pf) #[] caps] w fun e w' => e = .returned (.pointer (some ⟨g, 0, none⟩)) ∧
      Wr w' g (fun k => F k ∨ w.heap.size ≤ k) (listZ (bad, l) tag n stp).1 (listZ (bad, l) tag n stp).2 ∧ Chg F w w' := by
  have hfn := fun (W : World) => run_neq_func_nil (P := Tryz.prog) W (.func pf) #[] caps und_put
  have HPut := Lib.hid hput
  have HSt := Lib.hid hst
  clear hput hst
  have hw0 := hw
  obtain ⟨v, hb, ho, hFg, hFv⟩ := hw
  have h1 := hb.cell 1
  simp only [List.getElem?_toArray, List.getElem?_cons_zero, List.getElem?_cons_succ] at h1
  by_cases hbad : bad = 0
  · subst hbad
    have h00 : ((0 : Int) != 0) = false := rfl
    have hlz : listZ (0, l) tag n stp = if (itemsZ stp n 0 (0, [])).1 ≠ 0 then ((itemsZ stp n 0 (0, [])).1, l) else putZ (0, l) tag (itemsZ stp n 0 (0, [])).2 := by
      rw [listZ, if_neg (by simp)]
    have HZ := Lib.hid hlz
    clear hlz
    go_enter Tryz.func69, Tryz.ntmps69
    go_wp2
    go_step3
    go_wp2
    go_step3
    go_wp2
    have hwr0 : Wr (w.alloc (.cells #[Value.slice none 0 0, Value.int .i64 0] 125)) w.heap.size (fun k => w.heap.size ≤ k ∧ k < w.heap.size + 1) 0 [] :=
      ⟨_, Blk.new _ _ _, World.ownsRow_nil _ _ _ _, by omega, by simp [Value.ownBlock]⟩
    have hB0 : Below w.heap.size w (w.alloc (.cells #[Value.slice none 0 0, Value.int .i64 0] 125)) := (Below.refl _ w).alloc (Nat.le_refl _) _
    go_loopw [29] (fun k wr => ∃ (j : Nat) (s2 : List UInt8), k = .int .i64 j ∧ j ≤ n ∧ Hid (itemsZ stp n 0 (0, []) = itemsZ stp (n - j) j (0, s2)) ∧ Wr wr w.heap.size (fun k => w.heap.size ≤ k ∧ k < wr.heap.size) 0 s2 ∧ Below w.heap.size w wr ∧ s2.length ≤ j * L)
      (fun k _ => n - (intOf k).toNat)
    case atStart => exact ⟨0, [], rfl, by omega, rfl, by simpa using hwr0, hB0, by simp⟩
    case round =>
      obtain ⟨j, s2, rfl, hj, hit, hwr, hB, hlen⟩ := hrel
      have hwrk := hwr
      obtain ⟨v1, hb1, ho1, _, hv1⟩ := hwr
      obtain ⟨vA1, vc1, rfl, _, _⟩ := own_form ho1
      have c0 := hb1.cell 0
      have c1 := hb1.cell 1
      simp only [List.getElem?_toArray, List.getElem?_cons_zero, List.getElem?_cons_succ] at c0 c1
      by_cases hlt : j < n
      · have hjL : j * L + L ≤ n * L := by rw [← Nat.succ_mul]; exact Nat.mul_le_mul_right _ hlt
        have hstj := HSt.out j (0, s2) hlt
        obtain ⟨tt, htt⟩ : ∃ tt, stp j (0, s2) = tt := ⟨_, rfl⟩
        rw [htt] at hstj
        have hcall := HPut.out j wr w.heap.size _ 0 s2 hlt hB hwrk (fun k hk => hk) (by omega)
        rw [htt] at hcall
        have hnj : n - j = (n - (j + 1)) + 1 := by omega
        have hit2 : itemsZ stp n 0 (0, []) = if tt.1 ≠ 0 ∨ manyZ (tt.2.drop s2.length) ≠ 1 then (failZ tt.1 2, tt.2) else itemsZ stp (n - (j + 1)) (j + 1) tt := by
          rw [hit.out, hnj, itemsZ, htt]
        have HIT := Lib.hid hit2
        have HCALL := Lib.hid hcall
        obtain ⟨tb, tl⟩ := tt
        dsimp only at hstj
        clear hit2 hit hnj htt hcall
        go_wp2_with fail
        refine HCALL.out.mono ?_
        rintro e w1 ⟨rfl, hwr1, hc1⟩
        have hz1 := hc1.size
        have hB1 : Below w.heap.size w w1 := hB.trans (hc1.below hB.size (fun k hk h => by omega))
        have hwr2 : Wr w1 w.heap.size (fun k => w.heap.size ≤ k ∧ k < w1.heap.size) tb tl := hwr1.more (fun k h1 h => by rcases h with h | h <;> omega)
        have hwrk2 := hwr2
        obtain ⟨v2, hb2, ho2, _, hv2⟩ := hwr2
        have hr2 : ∀ A c, v2 = .slice A tl.length c → Rd w1 (fun k => w.heap.size ≤ k ∧ k < w1.heap.size) A tl.length 1 (bV tl) := fun A c e => Rd.of_own (e ▸ ho2) (fun k hk => hv2 k (e ▸ hk))
        have c0' := hb2.cell 0
        have c1' := hb2.cell 1
        simp only [List.getElem?_toArray, List.getElem?_cons_zero, List.getElem?_cons_succ] at c0' c1'
        by_cases htb : tb = 0
        · subst htb
          have h000 : ((0 : Int) != 0) = false := rfl
          rcases ho2.2 with ⟨rfl, htl0⟩ | ⟨g2, cap2, cur2, rfl, _, _, hnc2, hcm2, _⟩
          · have hs0 : s2.length = 0 := by omega
            have htn : tl = [] := List.eq_nil_of_length_eq_zero htl0
            subst htn
            have hs20 : s2 = [] := List.eq_nil_of_length_eq_zero hs0
            subst hs20
            clear hr2 hs0 htl0
            have hm : manyZ [] = 0 := by decide
            have HM := Lib.hid hm
            clear hm
            go_wp2_with (first
                | (go_at_call 93; refine (tlv_many _ _ _ [] _ (by omega) (by omega) _ (Rd.none_ w1 (fun _ => True) none 1)).mono ?_; rintro e w3 ⟨rfl, hb3⟩; rw [HM.out]; have hb3' := hb2.below hb3 hb2.lt; have hB3 := hB1.trans (hb3.mono hB1.size); have d1 := hb3'.cell 1; simp only [List.getElem?_toArray, List.getElem?_cons_zero, List.getElem?_cons_succ] at d1)
                | (go_at_call 92; (with_reducible refine (tlv_fail w.heap.size _ _ _ _ hb3').mono ?_); rintro e w4 ⟨rfl, hb4, hc4⟩; have hB4 := hB3.trans (hc4.below hB3.size (fun k hk h => by omega)); have e1 := hb4.cell 1; have hg4 := hb.below hB4 (hF _ hFg); simp only [List.getElem?_toArray, List.getElem?_cons_zero, List.getElem?_cons_succ, failZ] at e1; have e2 : ((2 : Int) != 0) = true := rfl)
                | (go_at_call 92; (with_reducible refine (tlv_fail g _ _ _ _ hg4).mono ?_); rintro e w5 ⟨rfl, hb5, hc5⟩))
            all_goals (try rw [Exit.noGoto_ret])
            go_ret
            rw [HZ.out, HIT.out, if_pos (show _ ∨ _ from (.inr (by rw [show List.drop ([] : List UInt8).length ([] : List UInt8) = [] from rfl, HM.out]; decide))), if_pos (by simp [failZ])]
            exact ⟨rfl, list_end_fail hb ho hFg hFv hB4 hb5 hc5⟩
          · have hcut := (hr2 _ _ rfl).cutB (k := s2.length) (cap := cap2) hstj.1 hnc2
            have hcutA : cap2 = s2.length → Rd w1 (fun k => w.heap.size ≤ k ∧ k < w1.heap.size) (some ⟨g2, 0, none⟩) (tl.length - s2.length) 1 (bV (tl.drop s2.length)) := fun h => by rwa [if_pos h] at hcut
            have hcutB : ¬ cap2 = s2.length → Rd w1 (fun k => w.heap.size ≤ k ∧ k < w1.heap.size) (some ⟨g2, s2.length, none⟩) (tl.length - s2.length) 1 (bV (tl.drop s2.length)) := fun h => by rw [if_neg h] at hcut; simpa using hcut
            have HA := Lib.hid hcutA
            have HB := Lib.hid hcutB
            clear hr2 hcut hcutA hcutB
            obtain ⟨m, hm⟩ : ∃ m, manyZ (tl.drop s2.length) = m := ⟨_, rfl⟩
            have HM := Lib.hid hm
            clear hm
            by_cases hm1 : m = 1
            · have hpos : ¬ cap2 = s2.length := by
                intro h
                have hd : tl.drop s2.length = [] := List.drop_eq_nil_of_le (by omega)
                have := HM.out
                rw [hd, hm1] at this
                revert this
                decide
              have hm2 : (m != 1) = false := by simpa using hm1
              have HM1 := Lib.hid hm1
              clear hm1
              go_wp2_with (first
                  | (go_at_call 93; (with_reducible refine (tlv_many _ _ _ (tl.drop s2.length) _ (by omega) (by omega) _ (HB.out hpos)).mono ?_); rintro e w3 ⟨rfl, hb3⟩; rw [HM.out]; have hb3' := hb2.below hb3 hb2.lt; have hB3 := hB1.trans (hb3.mono hB1.size); have d1 := hb3'.cell 1; simp only [List.getElem?_toArray, List.getElem?_cons_zero, List.getElem?_cons_succ] at d1))
              go_roundw
              case rel =>
                refine ⟨j + 1, tl, by go_num, by omega, ?_, (hwrk2.chg (Chg.of_below' hb3 (fun _ => False)) (fun _ _ _ h => h)).more (fun k _ h => ⟨h.1, Nat.lt_of_lt_of_le h.2 hb3.size⟩), hB3, by rw [Nat.succ_mul]; omega⟩
                show _ = _
                rw [HIT.out, if_neg (by rw [HM.out, HM1.out]; simp)]
              case measure => simp [intOf]; omega
            · have hm2 : (m != 1) = true := by simpa using hm1
              have HM1 := Lib.hid hm1
              clear hm1
              by_cases hk : cap2 = s2.length
              · have hk2 := HA.out hk
                have hk3 : tl.length - s2.length ≤ 0 := by omega
                have HK := Lib.hid hk2
                clear hk2
                go_wp2_with (first
                    | (go_at_call 93; (with_reducible refine (tlv_many _ _ _ (tl.drop s2.length) _ (by omega) (by omega) _ HK.out).mono ?_); rintro e w3 ⟨rfl, hb3⟩; rw [HM.out]; have hb3' := hb2.below hb3 hb2.lt; have hB3 := hB1.trans (hb3.mono hB1.size); have d1 := hb3'.cell 1; simp only [List.getElem?_toArray, List.getElem?_cons_zero, List.getElem?_cons_succ] at d1)
                    | (go_at_call 92; (with_reducible refine (tlv_fail w.heap.size _ _ _ _ hb3').mono ?_); rintro e w4 ⟨rfl, hb4, hc4⟩; have hB4 := hB3.trans (hc4.below hB3.size (fun k hk h => by omega)); have e1 := hb4.cell 1; have hg4 := hb.below hB4 (hF _ hFg); simp only [List.getElem?_toArray, List.getElem?_cons_zero, List.getElem?_cons_succ, failZ] at e1; have e2 : ((2 : Int) != 0) = true := rfl)
                    | (go_at_call 92; (with_reducible refine (tlv_fail g _ _ _ _ hg4).mono ?_); rintro e w5 ⟨rfl, hb5, hc5⟩))
                all_goals (try rw [Exit.noGoto_ret])
                go_ret
                rw [HZ.out, HIT.out, if_pos (show _ ∨ _ from (.inr (by rw [HM.out]; exact HM1.out))), if_pos (by simp [failZ])]
                exact ⟨rfl, list_end_fail hb ho hFg hFv hB4 hb5 hc5⟩
              · have HK := Lib.hid (HB.out hk)
                go_wp2_with (first
                    | (go_at_call 93; (with_reducible refine (tlv_many _ _ _ (tl.drop s2.length) _ (by omega) (by omega) _ HK.out).mono ?_); rintro e w3 ⟨rfl, hb3⟩; rw [HM.out]; have hb3' := hb2.below hb3 hb2.lt; have hB3 := hB1.trans (hb3.mono hB1.size); have d1 := hb3'.cell 1; simp only [List.getElem?_toArray, List.getElem?_cons_zero, List.getElem?_cons_succ] at d1)
                    | (go_at_call 92; (with_reducible refine (tlv_fail w.heap.size _ _ _ _ hb3').mono ?_); rintro e w4 ⟨rfl, hb4, hc4⟩; have hB4 := hB3.trans (hc4.below hB3.size (fun k hk h => by omega)); have e1 := hb4.cell 1; have hg4 := hb.below hB4 (hF _ hFg); simp only [List.getElem?_toArray, List.getElem?_cons_zero, List.getElem?_cons_succ, failZ] at e1; have e2 : ((2 : Int) != 0) = true := rfl)
                    | (go_at_call 92; (with_reducible refine (tlv_fail g _ _ _ _ hg4).mono ?_); rintro e w5 ⟨rfl, hb5, hc5⟩))
                all_goals (try rw [Exit.noGoto_ret])
                go_ret
                rw [HZ.out, HIT.out, if_pos (show _ ∨ _ from (.inr (by rw [HM.out]; exact HM1.out))), if_pos (by simp [failZ])]
                exact ⟨rfl, list_end_fail hb ho hFg hFv hB4 hb5 hc5⟩
        · have htb' : (tb != 0) = true := by simpa using htb
          clear hr2
          go_wp2_with (first
              | (go_at_call 92; (with_reducible refine (tlv_fail w.heap.size _ _ _ _ hb2).mono ?_); rintro e w4 ⟨rfl, hb4, hc4⟩; have hB4 := hB1.trans (hc4.below hB1.size (fun k hk h => by omega)); have e1 := hb4.cell 1; have hg4 := hb.below hB4 (hF _ hFg); simp only [List.getElem?_toArray, List.getElem?_cons_zero, List.getElem?_cons_succ, failZ, if_neg htb] at e1; clear hc1)
              | (go_at_call 92; (with_reducible refine (tlv_fail g _ _ _ _ hg4).mono ?_); rintro e w5 ⟨rfl, hb5, hc5⟩))
          all_goals (try rw [Exit.noGoto_ret])
          go_ret
          rw [HZ.out, HIT.out, if_pos (show _ ∨ _ from (.inl htb)), if_pos (by simp [failZ, htb])]
          exact ⟨rfl, list_end_fail hb ho hFg hFv hB4 (by simpa [failZ, htb] using hb5) hc5⟩
      · obtain rfl : j = n := by omega
        have hit3 : itemsZ stp j 0 (0, []) = (0, s2) := by rw [hit.out, Nat.sub_self, itemsZ]
        have HIT := Lib.hid hit3
        clear hit3 hit
        have hwo : Wr wr g F 0 l := hw0.chg (Chg.of_below' hB (fun _ => False)) (fun _ _ _ h => h)
        have hr1 := Rd.of_own (G := fun k => w.heap.size ≤ k ∧ k < wr.heap.size) ho1 (fun k hk => hv1 k hk)
        have h000 : ((0 : Int) != 0) = false := rfl
        go_wp2_with (go_at_call 72; (with_reducible refine (tlv_Bytes g F _ 0 l tag _ _ _ s2 _ hwo hr1 (fun k _ hk hf => by have := hF k hf; omega) hl).mono ?_); rintro e w5 ⟨rfl, hw5, hc5⟩)
        all_goals (try rw [Exit.noGoto_ret])
        go_ret
        rw [HZ.out, HIT.out, if_neg (by simp)]
        refine ⟨rfl, hw5.more (fun k _ h => h.imp id (fun h => Nat.le_trans hB.size h)), (Chg.of_below' hB F).same hc5⟩
  · have hb' : (bad != 0) = true := by simpa using hbad
    have hp : listZ (bad, l) tag n stp = (bad, l) := by rw [listZ, if_pos (by simpa using hbad)]
    have HP := Lib.hid hp
    clear hp hbad
    go_enter Tryz.func69, Tryz.ntmps69
    go_wp2
    go_step3
    go_wp2
    rw [Exit.noGoto_ret]
    go_ret
    refine ⟨rfl, ?_, Chg.refl _ w⟩
    rw [HP.out]
    exact hw0.more (fun k _ h => .inl h)

end Go.Proofs.YtenjdidjjggefaaGreat
