import Derived.Test.YtenjdidjjggefaaGreatResF
namespace Go.Proofs.YtenjdidjjggefaaGreat
open Go.RowKit Go.Shelf Go.Sort

theorem resZ_code (code : Int) : (resZ ⟨code, false, [], []⟩).1 = 0 := by
  simp [resZ, putZ, listZ, itemsZ, be8]

/-- what ResultBytes says -/
def ResSays (r : ResD) (w : World) (e : Ending) (w' : World) : Prop :=
  (if mayResD r = true then ∃ v, e = .returned (.tuple #[v, .int .i64 0]) ∧ w'.ownsRow w.heap.size 5 1 v (resZ r).2.length (bV (resZ r).2) else e = .returned (.tuple #[.slice none 0 0, .int .i64 2])) ∧ Below w.heap.size w w'

theorem may_parts {code : Int} {yes : Bool} {es : List EntryD} {cur : List UInt8} (h : mayResD ⟨code, yes, es, cur⟩ = true) :
    ∃ k : Nat, code = k ∧ k ≤ 14 ∧ es.length ≤ 1000 ∧ cur.length ≤ 4000 ∧ (∀ e ∈ es, mayEntryD e = true) ∧ (resZ ⟨code, yes, es, cur⟩).1 = 0 := by
  rw [mayResD] at h
  split at h
  · simp only [Bool.and_eq_true, decide_eq_true_eq, Bool.not_eq_true'] at h
    obtain ⟨h1, h2, h3, h4, h5⟩ := h
    subst h3 h4 h5
    refine ⟨code.toNat, by omega, by omega, by simp, by simp, by simp, resZ_code _⟩
  · rename_i hc
    have hc0 : code = 0 := by simpa using hc
    subst hc0
    simp only [Bool.and_eq_true, decide_eq_true_eq, Bool.not_eq_true'] at h
    obtain ⟨h1, h2, h3, h4⟩ := h
    exact ⟨0, rfl, by omega, h1, h3, good_all h2, h4⟩

set_option maxRecDepth 100000 in
set_option maxHeartbeats 1000000 in
theorem res_bytes (code : Int) (yes : Bool) (es : List EntryD) (cur : List UInt8) (A B : Option Addr) (n c m k : Nat) (G : Nat → Prop) (w : World) (hE : RE w G A n es) (hC : Rd w G B m 1 (bV cur)) (hn : n ≤ 1048576) (hm : m ≤ 1048576) :
    Calls Tryz.prog 26 #[.agg #[.int .i64 code, .bool yes, .slice A n c, .slice B m k]] w (ResSays ⟨code, yes, es, cur⟩ w) := by
  have hln : es.length = n := hE.1
  have hlm : cur.length = m := by have := hC.1; simp at this; omega
  have hB := (Below.refl w.heap.size w).alloc (Nat.le_refl _) (.cells #[.int .i64 code, .bool yes, .slice A n c, .slice B m k] 37)
  have hE1 := hE.alloc (.cells #[.int .i64 code, .bool yes, .slice A n c, .slice B m k] 37)
  have hC1 := hC.alloc (.cells #[.int .i64 code, .bool yes, .slice A n c, .slice B m k] 37)
  have hk1 := Blk.new w 37 #[.int .i64 code, .bool yes, .slice A n c, .slice B m k]
  have HS := Lib.hid (may_result code yes es cur A B n c m k G _ hE1 hC1 hn hm)
  by_cases hmay : mayResD ⟨code, yes, es, cur⟩ = true
  · obtain ⟨kc, rfl, h1, h2, h3, h4, h5⟩ := may_parts hmay
    rw [hmay] at HS
    have HM := Lib.hid hmay
    have H4 := Lib.hid h4
    have H5 := Lib.hid h5
    clear hmay h4 h5
    go_enter Tryz.func26, Tryz.ntmps26
    go_wp2_with (first
      | (go_at_call 46; (with_reducible refine HS.out.mono ?_); rintro e' w1 ⟨rfl, hb1⟩; have hB1 := hB.trans (hb1.mono (by simp)); have q1 := hk1.below hb1 (by simp); have f0 := q1.cell 0; have f1 := q1.cell 1; have f2 := q1.cell 2; have f3 := q1.cell 3; simp only [List.getElem?_toArray, List.getElem?_cons_zero, List.getElem?_cons_succ] at f0 f1 f2 f3; have hE2 := hE1.below hb1 (fun k hk h => hk); have hC2 := hC1.below hb1 (fun k hk h => hk))
      | (go_at_call 47; refine (result_bytes_ok kc yes es cur _ _ _ _ _ _ _ _ hE2 hC2 (by omega) (by omega) H4.out h1 H5.out).mono ?_; rintro e' w2 ⟨hres, hb2⟩; rw [if_pos H5.out] at hres; obtain ⟨v, rfl, ho⟩ := hres; have hB2 := hB1.trans (hb2.mono hB1.size)))
    go_ret2
    refine ⟨?_, hB2⟩
    rw [if_pos HM.out]
    exact ⟨_, rfl, own_base ho (fun k hk => Nat.le_trans hB1.size (ho.lt k hk).1)⟩
  · have hf : mayResD ⟨code, yes, es, cur⟩ = false := by simpa using hmay
    rw [hf] at HS
    have HM := Lib.hid hf
    clear hmay hf
    go_enter Tryz.func26, Tryz.ntmps26
    go_wp2_with (first
      | (go_at_call 46; (with_reducible refine HS.out.mono ?_); rintro e' w1 ⟨rfl, hb1⟩; have hB1 := hB.trans (hb1.mono (by simp))))
    go_ret2
    refine ⟨?_, hB1⟩
    rw [if_neg (by rw [HM.out]; simp)]
    rfl

end Go.Proofs.YtenjdidjjggefaaGreat
