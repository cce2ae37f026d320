import Derived.Test.YtenjdidjjggefaaGreatEntB
import Derived.Lib.QuietBelow
namespace Go.Proofs.YtenjdidjjggefaaGreat
open Go.RowKit Go.Shelf Go.Sort

/-- attributes as cells -/
def attrCells (l : List AttrD) : List Value := l.flatMap fun a => [.string a.1, .string a.2]
theorem attrCells_get (l : List AttrD) (j : Nat) (h : j < l.length) : (attrCells l)[j * 2]? = some (.string l[j].1) ∧ (attrCells l)[j * 2 + 1]? = some (.string l[j].2) := by
  induction l generalizing j with
  | nil => simp at h
  | cons a l ih =>
    cases j with
    | zero => simp [attrCells]
    | succ j =>
      have := ih j (by simpa using h)
      simp only [attrCells, List.flatMap_cons, List.getElem_cons_succ] at this ⊢
      have e : (j + 1) * 2 = j * 2 + 2 := by omega
      have e2 : (j + 1) * 2 + 1 = (j * 2 + 1) + 2 := by omega
      rw [e2, e]
      simpa using this
@[simp] theorem attrCells_length (l : List AttrD) : (attrCells l).length = l.length * 2 := by
  induction l with
  | nil => rfl
  | cons a l ih => simp only [attrCells, List.flatMap_cons, List.length_append, List.length_cons, List.length_nil] at ih ⊢; omega

/-- is the attribute at a place one that may not be there? -/
def badAt (l : List AttrD) (j : Nat) : Bool := !mayAttrD (l.getD j default) || (decide (0 < j) && decide (0 ≤ cmpAttr (l.getD (j - 1) default) (l.getD j default)))
/-- may attributes be? -/
def mayAttrsD (l : List AttrD) : Bool := ((List.range l.length).all fun j => !badAt l j) && decide (l.length ≤ 50)

theorem mayAttrs_bad {l : List AttrD} {j : Nat} (h : j < l.length) (hb : badAt l j = true) : mayAttrsD l = false := by
  rw [mayAttrsD]
  have : ((List.range l.length).all fun j => !badAt l j) = false := by
    rw [List.all_eq_false]
    exact ⟨j, by simpa using h, by simp [hb]⟩
  rw [this, Bool.false_and]
theorem mayAttrs_good {l : List AttrD} (h : ∀ k, k < l.length → badAt l k = false) : mayAttrsD l = decide (l.length ≤ 50) := by
  rw [mayAttrsD]
  have : ((List.range l.length).all fun j => !badAt l j) = true := by
    rw [List.all_eq_true]
    intro j hj
    rw [h j (by simpa using hj)]; rfl
  rw [this, Bool.true_and]

theorem badAt_next {l : List AttrD} {j : Nat} (h1 : ∀ k, k < j → badAt l k = false) (h2 : badAt l j = false) : ∀ k, k < j + 1 → badAt l k = false := by
  intro k hk
  rcases Nat.lt_or_ge k j with h | h
  · exact h1 k h
  · obtain rfl : k = j := by omega
    exact h2

theorem Rd.at2 {w : World} {G : Nat → Prop} {b off n : Nat} {l : List AttrD} (h : Rd w G (some ⟨b, off, none⟩) n 2 (attrCells l)) {j : Nat} (hj : j < n) :
    w.cell? ⟨b, off + j * 2, none⟩ = some (.string (l.getD j default).1) ∧ w.cell? ⟨b, off + j * 2 + 1, none⟩ = some (.string (l.getD j default).2) := by
  obtain ⟨b', off', e, _, _, hc⟩ := h.2 (by omega)
  obtain ⟨rfl, rfl⟩ : b = b' ∧ off = off' := by simpa using e
  have hl : l.length = n := by have := h.1; simp at this; omega
  have hj' : j < l.length := by omega
  have e : l.getD j default = l[j] := by simp [List.getD, hj']
  rw [e]
  exact ⟨hc _ _ (attrCells_get l j hj').1, by rw [Nat.add_assoc]; exact hc _ _ (attrCells_get l j hj').2⟩

set_option maxRecDepth 100000 in
set_option maxHeartbeats 4000000 in
theorem entry_MayAttrs (A : Option Addr) (n c : Nat) (l : List AttrD) (G : Nat → Prop) (w : World) (hr : Rd w G A n 2 (attrCells l)) (hn : n ≤ 1048576) :
    Calls Tryz.prog 91 #[.slice A n c] w fun e w' => e = .returned (.bool (mayAttrsD l)) ∧ Below w.heap.size w w' := by
  have hln : l.length = n := by have := hr.1; simp at this; omega
  have hmx : Tryz.prog.follows .mixedOrders = true := by kernel_rfl
  have HL := Lib.hid hln
  clear hln
  go_enter Tryz.func91, Tryz.ntmps91
  go_wp2
  go_loopw [7] (fun k wr => ∃ j : Nat, k = .int .i64 j ∧ j ≤ n ∧ Hid (∀ k, k < j → badAt l k = false) ∧ Below w.heap.size w wr) (fun k _ => n - (intOf k).toNat)
  case atStart => exact ⟨0, rfl, by omega, fun k h => absurd h (by omega), Below.refl _ _⟩
  case round =>
    obtain ⟨j, rfl, hj, hok, hB⟩ := hrel
    by_cases hlt : j < n
    · obtain ⟨b, off, rfl, hGb, hbl, _⟩ := hr.2 (by omega)
      have hrw := hr.below hB (fun k hk _ => hk)
      obtain ⟨h0, h1⟩ := hrw.at2 hlt
      have hbadj : badAt l j = (!mayAttrD (l.getD j default) || (decide (0 < j) && decide (0 ≤ cmpAttr (l.getD (j - 1) default) (l.getD j default)))) := rfl
      have HBJ := Lib.hid hbadj
      clear hbadj
      generalize l.getD j default = a at h0 h1 HBJ
      have hlk : j < l.length := by rw [HL.out]; exact hlt
      obtain ⟨W2, hW2⟩ : ∃ W2, wr.alloc (.cells #[Value.string a.1, Value.string a.2] 144) = W2 := ⟨_, rfl⟩
      have hBlk : Blk W2 wr.heap.size 144 #[Value.string a.1, Value.string a.2] := hW2 ▸ Blk.new _ _ _
      have hB2 : Below w.heap.size w W2 := hW2 ▸ hB.alloc hB.size _
      have HW2 := Lib.hid hW2
      clear hW2
      cases hma : mayAttrD a
      · have hbt : badAt l j = true := by rw [HBJ.out, hma]; rfl
        have hfin := mayAttrs_bad hlk hbt
        have HF := Lib.hid hfin
        have HMA := Lib.hid hma
        clear hbt hma hfin
        go_wp2
        rw [HW2.out]
        have d0 := cell_regrown (show W2.cell? ⟨wr.heap.size, 0, none⟩ = some (.string a.1) from hBlk.cell 0)
        have d1 := cell_regrown (show W2.cell? ⟨wr.heap.size, 1, none⟩ = some (.string a.2) from hBlk.cell 1)
        have cM : ∀ d os, Calls Tryz.prog 114 #[.agg #[.string a.1, .string a.2]] (grow (redrawn W2 d) os) fun e w'' => e = .returned (.bool false) ∧ ∃ p : Regrown, w'' = grow (redrawn W2 p.d) p.os :=
          fun d os => Calls.regrown_of (by rw [← HMA.out]; exact entry_MayAttr a _)
        have HCM := Lib.hid cM
        clear cM
        refine wp_region_quiet_below (by kernel_rfl) (by kernel_rfl) ?_
        repeat (first | go_big_quiet_step (exact HCM.out _ _) | quiet_step (exact HCM.out _ _))
        refine wpQuiet_nil ?_
        intro _ hw'
        obtain ⟨⟨dq, osq⟩, hw''⟩ := hw'
        subst hw''
        have hB3 := hB2.trans ((below_regrown W2 dq osq).mono hB2.size)
        go_wp2
        go_ret
        exact ⟨by rw [HF.out]; rfl, hB3⟩
      · have HMA := Lib.hid hma
        clear hma
        rcases (show ¬ 0 < j ∨ 0 < j from by omega) with hj0 | hj0
        · have hbf : badAt l j = false := by rw [HBJ.out, HMA.out, decide_eq_false (by omega)]; rfl
          have HF := Lib.hid hbf
          have hg : decide (0 < j) = false := decide_eq_false hj0
          clear hbf hj0
          go_wp2
          rw [HW2.out]
          have d0 := cell_regrown (show W2.cell? ⟨wr.heap.size, 0, none⟩ = some (.string a.1) from hBlk.cell 0)
          have d1 := cell_regrown (show W2.cell? ⟨wr.heap.size, 1, none⟩ = some (.string a.2) from hBlk.cell 1)
          have cM : ∀ d os, Calls Tryz.prog 114 #[.agg #[.string a.1, .string a.2]] (grow (redrawn W2 d) os) fun e w'' => e = .returned (.bool true) ∧ ∃ p : Regrown, w'' = grow (redrawn W2 p.d) p.os :=
            fun d os => Calls.regrown_of (by rw [← HMA.out]; exact entry_MayAttr a _)
          have HCM := Lib.hid cM
          clear cM
          refine wp_region_quiet_below (by kernel_rfl) (by kernel_rfl) ?_
          repeat (first | go_big_quiet_step (exact HCM.out _ _) | quiet_step (exact HCM.out _ _))
          refine wpQuiet_nil ?_
          intro _ hw'
          obtain ⟨⟨dq, osq⟩, hw''⟩ := hw'
          subst hw''
          have hB3 := hB2.trans ((below_regrown W2 dq osq).mono hB2.size)
          go_wp2
          go_roundw
          case rel => exact ⟨j + 1, by go_num, by omega, badAt_next hok.out HF.out, hB3⟩
          case measure => simp [intOf]; omega
        · have hg : decide (0 < j) = true := decide_eq_true hj0
          obtain ⟨g0, g1⟩ := hrw.at2 (j := j - 1) (by omega)
          generalize hpd : l.getD (j - 1) default = p at g0 g1 HBJ
          have hbe : badAt l j = decide (0 ≤ cmpAttr p a) := by
            rw [HBJ.out, HMA.out, decide_eq_true (p := 0 < j) (by omega)]; simp
          have HBE := Lib.hid hbe
          clear hbe hpd
          have g2 : W2.cell? ⟨b, off + (j - 1) * 2, none⟩ = some (.string p.1) := by rw [← HW2.out]; exact (World.cell?_alloc_lt _ _ _ (lt_of_cell g0)).trans g0
          have g3 : W2.cell? ⟨b, off + (j - 1) * 2 + 1, none⟩ = some (.string p.2) := by rw [← HW2.out]; exact (World.cell?_alloc_lt _ _ _ (lt_of_cell g1)).trans g1
          have g4 := cell_regrown g2
          have g5 := cell_regrown g3
          clear g0 g1 g2 g3
          have cC : ∀ d os, Calls Tryz.prog 115 #[.agg #[.string p.1, .string p.2], .agg #[.string a.1, .string a.2]] (grow (redrawn W2 d) os) fun e w'' => e = .returned (.int .i64 (cmpAttr p a)) ∧ ∃ p : Regrown, w'' = grow (redrawn W2 p.d) p.os :=
            fun d os => Calls.regrown_of (entry_Compare p a _)
          have HCC := Lib.hid cC
          clear cC
          by_cases hc : 0 ≤ cmpAttr p a
          · have hfin : mayAttrsD l = false := mayAttrs_bad hlk (by rw [HBE.out]; simpa using hc)
            have HF := Lib.hid hfin
            clear hfin
            go_wp2
            rw [HW2.out]
            have d0 := cell_regrown (show W2.cell? ⟨wr.heap.size, 0, none⟩ = some (.string a.1) from hBlk.cell 0)
            have d1 := cell_regrown (show W2.cell? ⟨wr.heap.size, 1, none⟩ = some (.string a.2) from hBlk.cell 1)
            have cM : ∀ d os, Calls Tryz.prog 114 #[.agg #[.string a.1, .string a.2]] (grow (redrawn W2 d) os) fun e w'' => e = .returned (.bool true) ∧ ∃ p : Regrown, w'' = grow (redrawn W2 p.d) p.os :=
              fun d os => Calls.regrown_of (by rw [← HMA.out]; exact entry_MayAttr a _)
            have HCM := Lib.hid cM
            clear cM
            refine wp_region_quiet_below (by kernel_rfl) (by kernel_rfl) ?_
            repeat (first | go_big_quiet_step (first | exact HCM.out _ _ | exact HCC.out _ _) | quiet_step (first | exact HCM.out _ _ | exact HCC.out _ _))
            refine wpQuiet_nil ?_
            intro _ hw'
            obtain ⟨⟨dq, osq⟩, hw''⟩ := hw'
            subst hw''
            have hB3 := hB2.trans ((below_regrown W2 dq osq).mono hB2.size)
            go_wp2
            go_ret
            exact ⟨by rw [HF.out]; rfl, hB3⟩
          · have hbf : badAt l j = false := by rw [HBE.out]; simpa using hc
            have HF := Lib.hid hbf
            clear hbf
            go_wp2
            rw [HW2.out]
            have d0 := cell_regrown (show W2.cell? ⟨wr.heap.size, 0, none⟩ = some (.string a.1) from hBlk.cell 0)
            have d1 := cell_regrown (show W2.cell? ⟨wr.heap.size, 1, none⟩ = some (.string a.2) from hBlk.cell 1)
            have cM : ∀ d os, Calls Tryz.prog 114 #[.agg #[.string a.1, .string a.2]] (grow (redrawn W2 d) os) fun e w'' => e = .returned (.bool true) ∧ ∃ p : Regrown, w'' = grow (redrawn W2 p.d) p.os :=
              fun d os => Calls.regrown_of (by rw [← HMA.out]; exact entry_MayAttr a _)
            have HCM := Lib.hid cM
            clear cM
            refine wp_region_quiet_below (by kernel_rfl) (by kernel_rfl) ?_
            repeat (first | go_big_quiet_step (first | exact HCM.out _ _ | exact HCC.out _ _) | quiet_step (first | exact HCM.out _ _ | exact HCC.out _ _))
            refine wpQuiet_nil ?_
            intro _ hw'
            obtain ⟨⟨dq, osq⟩, hw''⟩ := hw'
            subst hw''
            have hB3 := hB2.trans ((below_regrown W2 dq osq).mono hB2.size)
            go_wp2
            go_roundw
            case rel => exact ⟨j + 1, by go_num, by omega, badAt_next hok.out HF.out, hB3⟩
            case measure => simp [intOf]; omega
    · obtain rfl : j = n := by omega
      have hfin : mayAttrsD l = decide ((j : Int) ≤ 50) := by
        rw [mayAttrs_good (by rw [HL.out]; exact hok.out), HL.out]
        exact decide_eq_decide.2 (by omega)
      have HF := Lib.hid hfin
      clear hfin
      go_wp2
      go_ret
      exact ⟨by rw [HF.out]; rfl, hB⟩

end Go.Proofs.YtenjdidjjggefaaGreat
