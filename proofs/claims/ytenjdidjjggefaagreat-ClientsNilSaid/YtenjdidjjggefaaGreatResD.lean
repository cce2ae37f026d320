import Derived.Test.YtenjdidjjggefaaGreatResC
import Derived.Deep.RegionHeld3
namespace Go.Proofs.YtenjdidjjggefaaGreat
open Go.RowKit Go.Shelf Go.Sort

/-- a result -/
structure ResD where
  code : Int
  yes : Bool
  es : List EntryD
  cur : List UInt8

/-- a result's bytes put to a list: an entry -/
def stpR (es : List EntryD) (i : Nat) (s : Int × List UInt8) : Int × List UInt8 := putZ s 1 (if (entZ (es.getD i default)).1 = 0 then (entZ (es.getD i default)).2 else [])
def resZ (r : ResD) : Int × List UInt8 := putZ (listZ (putZ (putZ (0, []) 1 (be8 r.code.toNat)) 2 [if r.yes then 1 else 0]) 3 r.es.length (stpR r.es)) 4 r.cur

theorem stpR_len (es : List EntryD) (hes : ∀ e ∈ es, mayEntryD e = true) (i : Nat) (s : Int × List UInt8) (hi : i < es.length) : s.2.length ≤ (stpR es i s).2.length ∧ (stpR es i s).2.length ≤ s.2.length + 105005 := by
  have e : es.getD i default = es[i] := by simp [List.getD, hi]
  have h := entZ_len (hes _ (List.getElem_mem hi))
  rw [stpR, e]
  have := putZ_len s 1 (if (entZ es[i]).1 = 0 then (entZ es[i]).2 else [])
  have hl : (if (entZ es[i]).1 = 0 then (entZ es[i]).2 else []).length ≤ 105000 := by split <;> simp_all
  omega

set_option maxRecDepth 100000 in
set_option maxHeartbeats 1000000 in
theorem res1_ok (A : Option Addr) (n c : Nat) (es : List EntryD) (G : Nat → Prop) (Bl : Nat) (w : World) (hBl : w.cell? ⟨Bl, 2, none⟩ = some (.slice A n c))
    (hr : RE w G A n es) (hes : ∀ e ∈ es, mayEntryD e = true) : PutOk Tryz.prog 70 #[.pointer (some ⟨Bl, 0, none⟩)] n (stpR es) w := by
  intro i W g F b l0 hk hB hw hF hl
  have c1 := (hB.cell (p := ⟨Bl, 2, none⟩) (lt_of_cell hBl)).trans hBl
  obtain ⟨b', off', x, A', m, c', rfl, hx, d0, d1, hrx, hm⟩ := (hr.below hB (fun k hk _ => hk)).at_ hk
  have hi : i < es.length := by have := hr.1; omega
  have e : es.getD i default = x := by simp [List.getD, hx]
  have hmx : mayEntryD x = true := hes _ (List.mem_of_getElem? hx)
  have hst : stpR es i (b, l0) = putZ (b, l0) 1 (if (entZ x).1 = 0 then (entZ x).2 else []) := by rw [stpR, e]
  have HST := Lib.hid hst
  have HE := Lib.hid (entry_Bytes x A' m c' G W hrx hm hmx)
  clear hst e hx hes
  show Calls _ _ #[_, _, _] _ _
  by_cases h0 : (entZ x).1 = 0
  · have H0 := Lib.hid h0
    clear h0
    go_enter Tryz.func70, Tryz.ntmps70
    go_wp2_with (first
      | (go_at_call 71; (with_reducible refine HE.out.mono ?_); rintro e' w1 ⟨hres, hb1⟩; rw [if_pos H0.out] at hres; obtain ⟨v, rfl, ho⟩ := hres; obtain ⟨vA, vc, rfl, _, _⟩ := own_form ho; have hw1 := hw.chg (Chg.of_below' hb1 (fun _ => False)) (fun _ _ _ h => h); have hr1 := Rd.of_own (G := fun k => W.heap.size ≤ k) ho (fun k hk => (ho.lt k hk).1))
      | (go_at_call 72; refine (tlv_Bytes g F _ b l0 1 _ _ _ (entZ x).2 _ hw1 hr1 (fun k _ hk hf => by have := (hF k hf).2; omega) hl).mono ?_; rintro e' w2 ⟨rfl, hw2, hc2⟩))
    go_end0
    rw [HST.out, if_pos H0.out]
    exact ⟨rfl, hw2.more (fun k _ h => h.imp id (fun h => Nat.le_trans hb1.size h)), (Chg.of_below' hb1 F).same hc2⟩
  · have H0 := Lib.hid h0
    clear h0
    go_enter Tryz.func70, Tryz.ntmps70
    go_wp2_with (first
      | (go_at_call 71; (with_reducible refine HE.out.mono ?_); rintro e' w1 ⟨hres, hb1⟩; rw [if_neg H0.out] at hres; subst hres; have hw1 := hw.chg (Chg.of_below' hb1 (fun _ => False)) (fun _ _ _ h => h); have hr1 := Rd.none_ w1 (fun _ => False) none 1)
      | (go_at_call 72; refine (tlv_Bytes g F _ b l0 1 _ _ _ [] _ hw1 hr1 (fun k _ hk hf => hk.elim) hl).mono ?_; rintro e' w2 ⟨rfl, hw2, hc2⟩))
    go_end0
    rw [HST.out, if_neg H0.out]
    exact ⟨rfl, hw2.more (fun k _ h => h.imp id (fun h => Nat.le_trans hb1.size h)), (Chg.of_below' hb1 F).same hc2⟩

end Go.Proofs.YtenjdidjjggefaaGreat
