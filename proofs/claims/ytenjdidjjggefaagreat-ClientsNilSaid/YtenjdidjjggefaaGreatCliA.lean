import Derived.Test.YtenjdidjjggefaaGreatResO
import Derived.Maps.Own
import Derived.Maps.Views
import Derived.Maps.Ext
import Derived.Maps.OwnSet
namespace Go.Proofs.YtenjdidjjggefaaGreat
open Go.RowKit Go.Shelf Go.Sort Go.Maps

abbrev DV := DataW Value
/-- how an element of the table's map reads: as itself -/
def RV (v : Value) : Option (DV × List MemPlace) := some (.held v, [])
def keyL (c : Nat) : Lit := .int .u64 (c : Int)
theorem key_wf {c : Nat} (hc : c < 18446744073709551616) : (keyL c).wf = true := by
  simp [keyL, Lit.wf, IntKind.min, IntKind.max, IntKind.bits, IntKind.signed]
  omega
theorem key_of {c : Nat} (hc : c < 18446744073709551616) : keyOf Tryz.prog 30 (.int .u64 (c : Int)) = some (keyL c) := keyOf_int_mk Tryz.underlying30 (key_wf hc)
theorem key_ne {c d : Nat} (h : c ≠ d) : keyL c ≠ keyL d := by
  intro he
  simp only [keyL, Lit.int.injEq, true_and] at he
  omega
def told (num : Nat) (A : Option Addr) (m k : Nat) : Value := .agg #[.int .u64 (num : Int), .slice A m k]
theorem zero_told (w : World) : (zeroValue 74).run Tryz.prog w = .ok (told 0 none 0 0) w := by kernel_rfl
theorem keyed : Keyed Tryz.prog 30 := int_keyed Tryz.underlying30

section
variable {w : World} {b n : Nat} {D : DV}
theorem look_none (h : w.ownsMap Tryz.prog 30 RV b n D) {c : Nat} (hc : c < 18446744073709551616) (hn : Maps.has D (keyL c) = false) (ok : Bool) :
    (Instr.lookup 45 (.map (some b)) (.int .u64 (c : Int)) ok).run Tryz.prog w = .ok (if ok then .tuple #[told 0 none 0 0, .bool false] else told 0 none 0 0) w := by
  obtain ⟨es, clock, hb, F, _, rfl⟩ := h
  rcases Maps.fit_look ok keyed Tryz.underlying45 (zero_told w) hb F (key_of hc) with ⟨hrun, _, _⟩ | ⟨e0, y, _, _, _, _, hat, _⟩
  · exact hrun
  · rw [has_true_of_atKey (y := y.1) hat] at hn
    cases hn
theorem look_some (h : w.ownsMap Tryz.prog 30 RV b n D) {c : Nat} (hc : c < 18446744073709551616) {v : Value} (hv : ∀ z, D.atKey (keyL c) z = .held v) (ok : Bool) :
    (Instr.lookup 45 (.map (some b)) (.int .u64 (c : Int)) ok).run Tryz.prog w = .ok (if ok then .tuple #[v, .bool true] else v) w := by
  obtain ⟨es, clock, hb, F, _, rfl⟩ := h
  rcases Maps.fit_look ok keyed Tryz.underlying45 (zero_told w) hb F (key_of hc) with ⟨_, _, hat⟩ | ⟨e0, y, _, _, hrun, hR, hat, _⟩
  · have := (hat .nil).symm.trans (hv .nil)
    cases this
  · have h1 := (hat .nil).symm.trans (hv .nil)
    simp only [RV, Option.some.injEq] at hR
    rw [← hR] at h1
    simp only [DataW.held.injEq] at h1
    rw [← h1]
    exact hrun
end

/-- a table's rows: client, number, bytes -/
abbrev RowT := Nat × Nat × List UInt8
def getT (L : List RowT) (c : Nat) : Option (Nat × List UInt8) := (L.find? (fun x => x.1 == c)).map (·.2)

/-- block g is a table, block b its map, the bytes in blocks of F: it holds the rows L -/
def Tbl (w : World) (g b : Nat) (F : Nat → Prop) (L : List RowT) : Prop :=
  Blk w g 47 #[.map (some b)] ∧ ¬ F g ∧ ¬ F b ∧ g ≠ b ∧ ∃ n D, w.ownsMap Tryz.prog 30 RV b n D ∧ L.length ≤ 16 ∧ Maps.size D = L.length ∧ Tidy D ∧
    ∀ c, c < 18446744073709551616 → match getT L c with
      | none => Maps.has D (keyL c) = false
      | some (num, l) => num < 18446744073709551616 ∧ ∃ A m k, (∀ z, D.atKey (keyL c) z = .held (told num A m k)) ∧ Rd w F A m 1 (bV l) ∧ m ≤ k ∧ m ≤ 1099511627776

theorem own_map_chg {w w' : World} {F : Nat → Prop} {b n : Nat} {D : DV} (h : w.ownsMap Tryz.prog 30 RV b n D) (hc : Chg F w w') (hb : ¬ F b) : w'.ownsMap Tryz.prog 30 RV b n D := by
  have hlt := h.lt
  obtain ⟨es, clock, hh, r⟩ := h
  exact ⟨es, clock, (hc.block b hlt hb).trans hh, r⟩

theorem Tbl.chg {w w' : World} {g b : Nat} {F H : Nat → Prop} {L : List RowT} (h : Tbl w g b F L) (hc : Chg H w w') (hg : ¬ H g) (hb : ¬ H b) (hF : ∀ k, k < w.heap.size → F k → ¬ H k) : Tbl w' g b F L := by
  obtain ⟨h1, h2, h3, h4, n, D, h5, h6, h7, h8, h9⟩ := h
  refine ⟨h1.chg hc hg, h2, h3, h4, n, D, own_map_chg h5 hc hb, h6, h7, h8, fun c hc' => ?_⟩
  have := h9 c hc'
  split at this
  · exact this
  · obtain ⟨q1, A, m, k, q2, q3, q4⟩ := this
    exact ⟨q1, A, m, k, q2, q3.chg hc hF, q4⟩

theorem Tbl.more {w : World} {g b : Nat} {F H : Nat → Prop} {L : List RowT} (h : Tbl w g b F L) (hF : ∀ k, k < w.heap.size → F k → H k) (hg : ¬ H g) (hb : ¬ H b) : Tbl w g b H L := by
  obtain ⟨h1, h2, h3, h4, n, D, h5, h6, h7, h8, h9⟩ := h
  refine ⟨h1, hg, hb, h4, n, D, h5, h6, h7, h8, fun c hc' => ?_⟩
  have := h9 c hc'
  split at this
  · exact this
  · obtain ⟨q1, A, m, k, q2, q3, q4⟩ := this
    exact ⟨q1, A, m, k, q2, q3.more hF, q4⟩

set_option maxRecDepth 100000 in
set_option maxHeartbeats 1000000 in
theorem cli_New (w : World) :
    Calls Tryz.prog 19 #[] w fun e w' => e = .returned (.pointer (some ⟨w.heap.size + 1, 0, none⟩)) ∧ Tbl w' (w.heap.size + 1) w.heap.size (fun _ => False) [] ∧ Below w.heap.size w w' ∧ w'.heap.size = w.heap.size + 2 := by
  have hmm := @run_makeMap Tryz.prog
  go_enter Tryz.func19, Tryz.ntmps19
  go_wp2
  go_ret
  have hb1 := Blk.new (w.alloc (.map #[] 0)) 47 #[.map (some w.heap.size)]
  simp only [World.size_alloc] at hb1
  refine ⟨rfl, ⟨hb1, fun h => h, fun h => h, by omega, 0, .map [], (World.ownsMap_made w _ _ _).alloc _, by simp, rfl, tidy_empty, fun c _ => ?_⟩, ((Below.refl w.heap.size w).alloc (Nat.le_refl _) _).alloc (by simp) _, by simp⟩
  simp [getT, Maps.has]

set_option maxRecDepth 100000 in
set_option maxHeartbeats 1000000 in
theorem cli_there (g b : Nat) (w : World) (hb : Blk w g 47 #[.map (some b)]) :
    Calls Tryz.prog 24 #[.pointer (some ⟨g, 0, none⟩)] w fun e w' => e = .returned (.bool true) ∧ w' = w := by
  have h0 := hb.cell 0
  simp only [List.getElem?_toArray, List.getElem?_cons_zero] at h0
  have hq := fun (W : World) => run_neq_map_nil (P := Tryz.prog) W 45 _ _ (some b) Tryz.underlying45
  go_enter Tryz.func24, Tryz.ntmps24
  go_wp2
  go_ret
  exact ⟨rfl, rfl⟩

set_option maxRecDepth 100000 in
set_option maxHeartbeats 1000000 in
theorem cli_Latest (g b : Nat) (F : Nat → Prop) (L : List RowT) (c : Nat) (hc : c < 18446744073709551616) (w : World) (ht : Tbl w g b F L) :
    Calls Tryz.prog 11 #[.pointer (some ⟨g, 0, none⟩), .int .u64 (c : Int)] w fun e w' =>
      e = .returned (.tuple #[.int .u64 (((getT L c).map (·.1)).getD 0 : Nat), .bool (getT L c).isSome]) ∧ Below w.heap.size w w' := by
  obtain ⟨hb, _, _, _, n, D, ho, _, _, _, hrow⟩ := ht
  have h0 := hb.cell 0
  simp only [List.getElem?_toArray, List.getElem?_cons_zero] at h0
  have hr := hrow c hc
  cases hg : getT L c with
  | none =>
    rw [hg] at hr
    have hl := look_none ho hc hr true
    simp only [if_true, told] at hl
    clear hr hrow hg
    go_enter Tryz.func11, Tryz.ntmps11
    go_wp2
    go_ret2
    exact ⟨rfl, (Below.refl w.heap.size w).alloc (Nat.le_refl _) _⟩
  | some x =>
    obtain ⟨num, l⟩ := x
    rw [hg] at hr
    obtain ⟨_, A, m, k, hat, _, _, _⟩ := hr
    have hl := look_some ho hc hat true
    simp only [if_true, told] at hl
    clear hrow hg hat
    go_enter Tryz.func11, Tryz.ntmps11
    go_wp2
    go_ret2
    exact ⟨rfl, (Below.refl w.heap.size w).alloc (Nat.le_refl _) _⟩

end Go.Proofs.YtenjdidjjggefaaGreat
