import Derived.Test.YtenjdidjjggefaaGreatEntA
import Derived.RegionCalls
import Derived.StillTailTactics
namespace Go.Proofs.YtenjdidjjggefaaGreat
open Go.RowKit Go.Shelf
open Go.Proofs (Tryz.strings_Compare)

/-- an attribute: its type, its value -/
abbrev AttrD := ByteArray × ByteArray
def mayAttrD (a : AttrD) : Bool := mayTypeL a.1.data.toList && mayNameL a.2.data.toList

set_option maxHeartbeats 400000 in
theorem entry_MayAttr (a : AttrD) (w : World) :
    Calls Tryz.prog 114 #[.agg #[.string a.1, .string a.2]] w fun e w' => e = .returned (.bool (mayAttrD a)) ∧ Below w.heap.size w w' := by
  have hB := (Below.refl w.heap.size w).alloc (Nat.le_refl _) (.cells #[.string a.1, .string a.2] 144)
  cases ht : mayTypeL a.1.data.toList
  · have hr : mayAttrD a = false := by rw [mayAttrD, ht]; rfl
    have HR := Lib.hid hr
    have HT := Lib.hid ht
    clear hr ht
    go_enter Tryz.func114, Tryz.ntmps114
    go_wp2_with (go_at_call 127; (with_reducible refine (entry_mayType _ _).mono ?_); rintro e w' ⟨rfl, rfl⟩; rw [HT.out])
    go_ret
    exact ⟨by rw [HR.out]; rfl, hB⟩
  · have hr : mayAttrD a = mayNameL a.2.data.toList := by rw [mayAttrD, ht]; rfl
    have HR := Lib.hid hr
    have HT := Lib.hid ht
    clear hr ht
    go_enter Tryz.func114, Tryz.ntmps114
    go_wp2_with (first
      | (go_at_call 127; (with_reducible refine (entry_mayType _ _).mono ?_); rintro e w' ⟨rfl, rfl⟩; rw [HT.out])
      | (go_at_call 90; (with_reducible refine (entry_MayName _ _).mono ?_); rintro e w' ⟨rfl, hb⟩))
    go_ret
    exact ⟨by rw [HR.out]; rfl, hB.trans (hb.mono (by simp))⟩

def orZ (x y : Int) : Int := if x = 0 then y else x

set_option maxRecDepth 100000 in
set_option maxHeartbeats 400000 in
theorem cmp_Or (b : Nat) (x y : Int) (w : World) (h0 : w.cell? ⟨b, 0, none⟩ = some (.int .i64 x)) (h1 : w.cell? ⟨b, 1, none⟩ = some (.int .i64 y)) :
    Calls Tryz.prog 128 #[.slice (some ⟨b, 0, none⟩) 2 2] w fun e w' => e = .returned (.int .i64 (orZ x y)) ∧ w = w' := by
  by_cases hx : x = 0
  · subst hx
    by_cases hy : y = 0
    · subst hy
      have e : ((0 : Int) != 0) = false := rfl
      go_enter Tryz.func128, Tryz.ntmps128
      go_wp2
      refine wp_loop_rounds 3 ?_
      iterate 3
        rw [rounds_succ]
        go_wp2
      go_ret
      exact ⟨by simp [orZ], rfl⟩
    · have e : ((0 : Int) != 0) = false := rfl
      have e2 : (y != 0) = true := by simpa using hy
      clear hy
      go_enter Tryz.func128, Tryz.ntmps128
      go_wp2
      refine wp_loop_rounds 2 ?_
      iterate 2
        rw [rounds_succ]
        go_wp2
      go_ret
      exact ⟨by simp [orZ], rfl⟩
  · have e2 : (x != 0) = true := by simpa using hx
    have HX := Lib.hid hx
    clear hx
    go_enter Tryz.func128, Tryz.ntmps128
    go_wp2
    refine wp_loop_rounds 1 ?_
    rw [rounds_succ]
    go_wp2
    go_ret
    exact ⟨by simp [orZ, HX.out], rfl⟩

/-- how two attributes stand -/
def cmpAttr (a b : AttrD) : Int := orZ (Lib.compareBytes a.1.data.toList b.1.data.toList) (Lib.compareBytes a.2.data.toList b.2.data.toList)

set_option maxRecDepth 100000 in
set_option maxHeartbeats 2000000 in
theorem entry_Compare (a b : AttrD) (w : World) :
    Calls Tryz.prog 115 #[.agg #[.string a.1, .string a.2], .agg #[.string b.1, .string b.2]] w fun e w' => e = .returned (.int .i64 (cmpAttr a b)) ∧ Below w.heap.size w w' := by
  go_enter Tryz.func115, Tryz.ntmps115
  go_wp2
  refine wp_region_still_tail 10 (by kernel_rfl) (by kernel_rfl) ?_
  simp only [List.take_succ_cons, List.take_zero, List.drop_succ_cons, List.drop_zero]
  change wpStill _ _ (World.drew _) _ _ _
  repeat still_step
  still_call (Tryz.strings_Compare _ _ _)
  repeat still_step
  still_call (Tryz.strings_Compare _ _ _)
  repeat still_step
  refine wpStill_nil ?_
  change wpList _ _ _ _ _ (World.drew _)
  go_wp2_with (go_at_call 128; (with_reducible refine (cmp_Or (w.heap.size + 1 + 1) (Lib.compareBytes a.1.data.toList b.1.data.toList) (Lib.compareBytes a.2.data.toList b.2.data.toList) _ (by go_simp) (by go_simp)).mono ?_); rintro e w' ⟨rfl, rfl⟩)
  go_ret
  exact ⟨rfl, ((((Below.refl w.heap.size w).alloc (Nat.le_refl _) _).alloc (by simp) _).alloc (by simp; omega) _).drew⟩

end Go.Proofs.YtenjdidjjggefaaGreat
