import Derived.Test.YtenjdidjjggefaaGreatResE
namespace Go.Proofs.YtenjdidjjggefaaGreat
open Go.RowKit Go.Shelf Go.Sort

set_option maxRecDepth 100000 in
set_option maxHeartbeats 1000000 in
theorem same_result (code : Int) (yes : Bool) (es : List EntryD) (cur : List UInt8) (A B : Option Addr) (n c m k : Nat) (G : Nat → Prop) (w : World) (hE : RE w G A n es) (hC : Rd w G B m 1 (bV cur)) (hn : n ≤ 1048576) (hm : m ≤ 1048576) :
    Calls Tryz.prog 63 #[.agg #[.int .i64 code, .bool yes, .slice A n c, .slice B m k], .agg #[.int .i64 code, .bool false, .slice none 0 0, .slice none 0 0]] w
      fun e w' => e = .returned (.bool (!yes && (decide (es = []) && decide (cur = [])))) ∧ Below w.heap.size w w' := by
  have hB := ((Below.refl w.heap.size w).alloc (Nat.le_refl _) (.cells #[.int .i64 code, .bool yes, .slice A n c, .slice B m k] 37)).alloc (by simp) (.cells #[.int .i64 code, .bool false, .slice none 0 0, .slice none 0 0] 37)
  have hE1 := (hE.alloc (.cells #[.int .i64 code, .bool yes, .slice A n c, .slice B m k] 37)).alloc (.cells #[.int .i64 code, .bool false, .slice none 0 0, .slice none 0 0] 37)
  have hC1 := (hC.alloc (.cells #[.int .i64 code, .bool yes, .slice A n c, .slice B m k] 37)).alloc (.cells #[.int .i64 code, .bool false, .slice none 0 0, .slice none 0 0] 37)
  have hk1 := (Blk.new w 37 #[.int .i64 code, .bool yes, .slice A n c, .slice B m k]).alloc (.cells #[.int .i64 code, .bool false, .slice none 0 0, .slice none 0 0] 37)
  have hk2 := Blk.new (w.alloc (.cells #[.int .i64 code, .bool yes, .slice A n c, .slice B m k] 37)) 37 #[.int .i64 code, .bool false, .slice none 0 0, .slice none 0 0]
  have HN : Hid (RE ((w.alloc (.cells #[.int .i64 code, .bool yes, .slice A n c, .slice B m k] 37)).alloc (.cells #[.int .i64 code, .bool false, .slice none 0 0, .slice none 0 0] 37)) G none 0 []) := RE.none_ _ _ _
  cases yes
  · have h0 : (false == false) = true := rfl
    have HS := Lib.hid (eq_entries A none n c 0 0 es [] G _ hE1 HN.out hn)
    by_cases he : es = []
    · rw [decide_eq_true he] at HS ⊢
      go_enter Tryz.func63, Tryz.ntmps63
      go_wp2_with (first
        | (go_at_call 86; (with_reducible refine HS.out.mono ?_); rintro e' w1 ⟨rfl, hb1⟩; have hB1 := hB.trans (hb1.mono (by simp; omega)); have q1 := hk1.below hb1 (by simp; omega); have q2 := hk2.below hb1 (by simp); have f1 := q1.cell 3; have f2 := q2.cell 3; simp only [List.getElem?_toArray, List.getElem?_cons_zero, List.getElem?_cons_succ, World.size_alloc] at f1 f2; have hC2 := hC1.below hb1 (fun k hk h => hk))
        | (go_at_call 88; (with_reducible refine (eq_bytes _ _ _ _ _ _ _ [] _ _ hC2 (Rd.none_ _ _ none _) hm).mono ?_); rintro e' w2 ⟨rfl, hb2⟩; have hB2 := hB1.trans (hb2.mono hB1.size)))
      go_ret
      exact ⟨by simp, hB2⟩
    · rw [decide_eq_false he] at HS ⊢
      go_enter Tryz.func63, Tryz.ntmps63
      go_wp2_with (first
        | (go_at_call 86; (with_reducible refine HS.out.mono ?_); rintro e' w1 ⟨rfl, hb1⟩; have hB1 := hB.trans (hb1.mono (by simp; omega))))
      go_ret
      exact ⟨by simp, hB1⟩
  · have h0 : (true == false) = false := rfl
    go_enter Tryz.func63, Tryz.ntmps63
    go_wp2
    go_ret
    exact ⟨by simp, hB⟩

/-- may a result be? -/
def mayResD (r : ResD) : Bool :=
  if r.code ≠ 0 then decide (0 < r.code) && (decide (r.code ≤ 14) && (!r.yes && (decide (r.es = []) && decide (r.cur = []))))
  else decide (r.es.length ≤ 1000) && (!badsD r.es && (decide (r.cur.length ≤ 4000) && decide ((resZ r).1 = 0)))

theorem good_all {es : List EntryD} (h : badsD es = false) : ∀ e ∈ es, mayEntryD e = true := by
  intro e he
  rw [badsD, List.any_eq_false] at h
  have := h e he
  simpa using this

set_option maxRecDepth 100000 in
set_option maxHeartbeats 1000000 in
theorem may_result (code : Int) (yes : Bool) (es : List EntryD) (cur : List UInt8) (A B : Option Addr) (n c m k : Nat) (G : Nat → Prop) (w : World) (hE : RE w G A n es) (hC : Rd w G B m 1 (bV cur)) (hn : n ≤ 1048576) (hm : m ≤ 1048576) :
    Calls Tryz.prog 46 #[.agg #[.int .i64 code, .bool yes, .slice A n c, .slice B m k]] w
      fun e w' => e = .returned (.bool (mayResD ⟨code, yes, es, cur⟩)) ∧ Below w.heap.size w w' := by
  have hln : es.length = n := hE.1
  have hlm : cur.length = m := by have := hC.1; simp at this; omega
  obtain ⟨R, hR⟩ : ∃ R, mayResD ⟨code, yes, es, cur⟩ = R := ⟨_, rfl⟩
  rw [hR]
  have hB := (Below.refl w.heap.size w).alloc (Nat.le_refl _) (.cells #[.int .i64 code, .bool yes, .slice A n c, .slice B m k] 37)
  have hE1 := hE.alloc (.cells #[.int .i64 code, .bool yes, .slice A n c, .slice B m k] 37)
  have hC1 := hC.alloc (.cells #[.int .i64 code, .bool yes, .slice A n c, .slice B m k] 37)
  have hk1 := Blk.new w 37 #[.int .i64 code, .bool yes, .slice A n c, .slice B m k]
  by_cases h0 : code = 0
  · subst h0
    have hcc : ((0 : Int) != 0) = false := rfl
    rw [mayResD, if_neg (by simp)] at hR
    dsimp only at hR
    rw [hln, hlm] at hR
    by_cases hn1 : n ≤ 1000
    · have hg1 : decide ((n : Int) > 1000) = false := decide_eq_false (by omega)
      rw [decide_eq_true hn1, Bool.true_and] at hR
      have HS := Lib.hid (contains_bad A n c es G _ hE1 hn)
      cases hbd : badsD es
      · rw [hbd] at HS hR
        rw [Bool.not_false, Bool.true_and] at hR
        by_cases hm1 : m ≤ 4000
        · have hg2 : decide ((m : Int) > 4000) = false := decide_eq_false (by omega)
          rw [decide_eq_true hm1, Bool.true_and] at hR
          by_cases hz : (resZ ⟨0, yes, es, cur⟩).1 = 0
          · rw [decide_eq_true hz] at hR
            subst hR
            have HZ := Lib.hid hz
            have HD := Lib.hid (good_all hbd)
            have e1 : ((0 : Int) == 0) = true := rfl
            clear hz hbd
            go_enter Tryz.func46, Tryz.ntmps46
            go_wp2_with (first
              | (go_at_call 64; (with_reducible refine HS.out.mono ?_); rintro e' w1 ⟨rfl, hb1⟩; have hB1 := hB.trans (hb1.mono (by simp)); have q1 := hk1.below hb1 (by simp); have f0 := q1.cell 0; have f1 := q1.cell 1; have f2 := q1.cell 2; have f3 := q1.cell 3; simp only [List.getElem?_toArray, List.getElem?_cons_zero, List.getElem?_cons_succ] at f0 f1 f2 f3; have hE2 := hE1.below hb1 (fun k hk h => hk); have hC2 := hC1.below hb1 (fun k hk h => hk))
              | (go_at_call 47; refine (result_bytes_ok 0 yes es cur _ _ _ _ _ _ _ _ hE2 hC2 hn1 hm1 HD.out (by omega) HZ.out).mono ?_; rintro e' w2 ⟨hres, hb2⟩; rw [show resZ ⟨((0 : Nat) : Int), yes, es, cur⟩ = resZ ⟨0, yes, es, cur⟩ from rfl, if_pos HZ.out] at hres; obtain ⟨v, rfl, _⟩ := hres; have hB2 := hB1.trans (hb2.mono hB1.size)))
            go_ret
            exact ⟨rfl, hB2⟩
          · rw [decide_eq_false hz] at hR
            subst hR
            have HZ := Lib.hid hz
            have HD := Lib.hid (good_all hbd)
            have e1 : ((resZ ⟨0, yes, es, cur⟩).1 == 0) = false := by simpa using hz
            have E1 := Lib.hid e1
            obtain ⟨z, hzz⟩ : ∃ z, (resZ ⟨0, yes, es, cur⟩).1 = z := ⟨_, rfl⟩
            have e2 : (z == 0) = false := by rw [← hzz]; exact e1
            have HZZ := Lib.hid hzz
            clear hz hbd e1 hzz
            go_enter Tryz.func46, Tryz.ntmps46
            go_wp2_with (first
              | (go_at_call 64; (with_reducible refine HS.out.mono ?_); rintro e' w1 ⟨rfl, hb1⟩; have hB1 := hB.trans (hb1.mono (by simp)); have q1 := hk1.below hb1 (by simp); have f0 := q1.cell 0; have f1 := q1.cell 1; have f2 := q1.cell 2; have f3 := q1.cell 3; simp only [List.getElem?_toArray, List.getElem?_cons_zero, List.getElem?_cons_succ] at f0 f1 f2 f3; have hE2 := hE1.below hb1 (fun k hk h => hk); have hC2 := hC1.below hb1 (fun k hk h => hk))
              | (go_at_call 47; refine (result_bytes_no 0 yes es cur _ _ _ _ _ _ _ _ hE2 hC2 hn1 hm1 HD.out (by omega) HZ.out).mono ?_; rintro e' w2 ⟨hres, hb2⟩; rw [show resZ ⟨((0 : Nat) : Int), yes, es, cur⟩ = resZ ⟨0, yes, es, cur⟩ from rfl, if_neg HZ.out, HZZ.out] at hres; subst hres; have hB2 := hB1.trans (hb2.mono hB1.size)))
            go_ret
            exact ⟨rfl, hB2⟩
        · have hg2 : decide ((m : Int) > 4000) = true := decide_eq_true (by omega)
          rw [decide_eq_false hm1, Bool.false_and] at hR
          subst hR
          clear hbd
          go_enter Tryz.func46, Tryz.ntmps46
          go_wp2_with (first
              | (go_at_call 64; (with_reducible refine HS.out.mono ?_); rintro e' w1 ⟨rfl, hb1⟩; have hB1 := hB.trans (hb1.mono (by simp)); have q1 := hk1.below hb1 (by simp); have f0 := q1.cell 0; have f1 := q1.cell 1; have f2 := q1.cell 2; have f3 := q1.cell 3; simp only [List.getElem?_toArray, List.getElem?_cons_zero, List.getElem?_cons_succ] at f0 f1 f2 f3))
          go_ret
          exact ⟨rfl, hB1⟩
      · rw [hbd] at HS hR
        rw [Bool.not_true, Bool.false_and] at hR
        subst hR
        clear hbd
        go_enter Tryz.func46, Tryz.ntmps46
        go_wp2_with (first
              | (go_at_call 64; (with_reducible refine HS.out.mono ?_); rintro e' w1 ⟨rfl, hb1⟩; have hB1 := hB.trans (hb1.mono (by simp))))
        go_ret
        exact ⟨rfl, hB1⟩
    · have hg1 : decide ((n : Int) > 1000) = true := decide_eq_true (by omega)
      rw [decide_eq_false hn1, Bool.false_and] at hR
      subst hR
      go_enter Tryz.func46, Tryz.ntmps46
      go_wp2
      go_ret
      exact ⟨rfl, hB⟩
  · have hcc : (code != 0) = true := by simpa using h0
    rw [mayResD, if_pos h0] at hR
    dsimp only at hR
    by_cases hp : 0 < code
    · have hg1 : decide (code > 0) = true := decide_eq_true hp
      rw [decide_eq_true hp, Bool.true_and] at hR
      by_cases hq : code ≤ 14
      · have hg2 : decide (code ≤ 14) = true := decide_eq_true hq
        rw [decide_eq_true hq, Bool.true_and] at hR
        have HS := Lib.hid (same_result code yes es cur A B n c m k G _ hE1 hC1 hn hm)
        rw [hR] at HS
        clear hR
        go_enter Tryz.func46, Tryz.ntmps46
        go_wp2_with (first
          | (go_at_call 63; (with_reducible refine HS.out.mono ?_); rintro e' w1 ⟨rfl, hb1⟩; have hB1 := hB.trans (hb1.mono (by simp))))
        go_ret
        exact ⟨by simp, hB1⟩
      · have hg2 : decide (code ≤ 14) = false := decide_eq_false hq
        rw [decide_eq_false hq, Bool.false_and] at hR
        subst hR
        go_enter Tryz.func46, Tryz.ntmps46
        go_wp2
        go_ret
        exact ⟨rfl, hB⟩
    · have hg1 : decide (code > 0) = false := decide_eq_false hp
      rw [decide_eq_false hp, Bool.false_and] at hR
      subst hR
      go_enter Tryz.func46, Tryz.ntmps46
      go_wp2
      go_ret
      exact ⟨rfl, hB⟩

end Go.Proofs.YtenjdidjjggefaaGreat
