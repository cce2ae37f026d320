import Derived.Test.YtenjdidjjggefaaGreatEntC
namespace Go.Proofs.YtenjdidjjggefaaGreat
open Go.RowKit Go.Shelf Go.Sort

/-- an attribute's two texts, put one by one -/
def stpA (a : AttrD) (k : Nat) (s : Int × List UInt8) : Int × List UInt8 := if k = 0 then putZ s 1 a.1.data.toList else putZ s 2 a.2.data.toList
/-- an attribute, put as a list -/
def stpB (l : List AttrD) (i : Nat) (s : Int × List UInt8) : Int × List UInt8 := listZ s 3 2 (stpA (l.getD i default))
def attrsZ (s : Int × List UInt8) (tag : UInt8) (l : List AttrD) : Int × List UInt8 := listZ s tag l.length (stpB l)

theorem valL_length (t : UInt8) (b : List UInt8) : (valL t b).length = b.length + 5 := by simp [valL, be4]
theorem putZ_len (s : Int × List UInt8) (t : UInt8) (b : List UInt8) : s.2.length ≤ (putZ s t b).2.length ∧ (putZ s t b).2.length ≤ s.2.length + (b.length + 5) := by
  rw [putZ]
  (repeat' split) <;> simp [valL_length] <;> omega
theorem itemsZ_len {stp : Nat → Int × List UInt8 → Int × List UInt8} {L n : Nat} (h : ∀ i s, i < n → s.2.length ≤ (stp i s).2.length ∧ (stp i s).2.length ≤ s.2.length + L) :
    ∀ (k i : Nat) (s : Int × List UInt8), i + k ≤ n → (itemsZ stp k i s).2.length ≤ s.2.length + k * L
  | 0, _, s, _ => by simp [itemsZ]
  | k + 1, i, s, hk => by
    have h1 := h i s (by omega)
    rw [itemsZ]
    split
    · simp only []; rw [Nat.succ_mul]; omega
    · have h2 := itemsZ_len h k (i + 1) (stp i s) (by omega)
      rw [Nat.succ_mul]; omega
theorem listZ_len {stp : Nat → Int × List UInt8 → Int × List UInt8} {L n : Nat} (h : ∀ i s, i < n → s.2.length ≤ (stp i s).2.length ∧ (stp i s).2.length ≤ s.2.length + L) (s : Int × List UInt8) (t : UInt8) :
    s.2.length ≤ (listZ s t n stp).2.length ∧ (listZ s t n stp).2.length ≤ s.2.length + (n * L + 5) := by
  have h1 := itemsZ_len h n 0 (0, []) (by omega)
  have h2 := putZ_len s t (itemsZ stp n 0 (0, [])).2
  rw [listZ]
  split
  · omega
  · split
    · simp only []; omega
    · simp at h1; omega
theorem stpA_len (a : AttrD) (ha : a.1.size ≤ 1000 ∧ a.2.size ≤ 1000) (i : Nat) (s : Int × List UInt8) : s.2.length ≤ (stpA a i s).2.length ∧ (stpA a i s).2.length ≤ s.2.length + 1005 := by
  rw [Lib.size_eq, Lib.size_eq] at ha
  rw [stpA]
  split
  · have := putZ_len s 1 a.1.data.toList; omega
  · have := putZ_len s 2 a.2.data.toList; omega

set_option maxRecDepth 100000 in
set_option maxHeartbeats 1000000 in
theorem put11_ok (A : Option Addr) (n c : Nat) (l : List AttrD) (G : Nat → Prop) (Bl Bi i : Nat) (w : World) (hBl : w.cell? ⟨Bl, 0, none⟩ = some (.slice A n c)) (hBi : w.cell? ⟨Bi, 0, none⟩ = some (.int .i64 i))
    (hr : Rd w G A n 2 (attrCells l)) (hi : i < n) : PutOk Tryz.prog 118 #[.pointer (some ⟨Bl, 0, none⟩), .pointer (some ⟨Bi, 0, none⟩)] 2 (stpA (l.getD i default)) w := by
  intro k W g F b l0 hk hB hw hF hl
  have c1 := (hB.cell (p := ⟨Bl, 0, none⟩) (lt_of_cell hBl)).trans hBl
  have c2 := (hB.cell (p := ⟨Bi, 0, none⟩) (lt_of_cell hBi)).trans hBi
  have hrw := hr.below hB (fun k hk _ => hk)
  obtain ⟨b0, off, rfl, hGb, hbl, _⟩ := hrw.2 (by omega)
  obtain ⟨g0, g1⟩ := hrw.at2 hi
  generalize l.getD i default = a at g0 g1
  rcases (show k = 0 ∨ k = 1 from by omega) with rfl | rfl
  · show Calls _ _ #[_, .int .i64 0, _, _] _ _
    go_enter Tryz.func118, Tryz.ntmps118
    go_wp2_with (go_at_call 94; refine (tlv_Text g F b l0 1 a.1 _ hw hl (fun k hk => (hF k hk).2)).mono ?_; rintro e w' ⟨rfl, hw', hc'⟩)
    go_end0
    exact ⟨rfl, hw', hc'⟩
  · show Calls _ _ #[_, .int .i64 1, _, _] _ _
    have e1 : ((1 : Int) == 0) = false := rfl
    go_enter Tryz.func118, Tryz.ntmps118
    go_wp2_with (go_at_call 94; refine (tlv_Text g F b l0 2 a.2 _ hw hl (fun k hk => (hF k hk).2)).mono ?_; rintro e w' ⟨rfl, hw', hc'⟩)
    go_end0
    exact ⟨rfl, hw', hc'⟩

theorem enters11 : ∀ args W, (callFunc 118 args).run Tryz.prog W = .ok (.enter 118 args) W := enters_of Tryz.func118 (by kernel_rfl) rfl
theorem enters1 : ∀ args W, (callFunc 117 args).run Tryz.prog W = .ok (.enter 117 args) W := enters_of Tryz.func117 (by kernel_rfl) rfl

set_option maxRecDepth 100000 in
set_option maxHeartbeats 1000000 in
theorem put1_ok (A : Option Addr) (n c : Nat) (l : List AttrD) (G : Nat → Prop) (Bl : Nat) (w : World) (hBl : w.cell? ⟨Bl, 0, none⟩ = some (.slice A n c))
    (hr : Rd w G A n 2 (attrCells l)) (hM : ∀ a ∈ l, a.1.size ≤ 1000 ∧ a.2.size ≤ 1000) : PutOk Tryz.prog 117 #[.pointer (some ⟨Bl, 0, none⟩)] n (stpB l) w := by
  intro i W g F b l0 hk hB hw hF hl
  have c1 := (hB.cell (p := ⟨Bl, 0, none⟩) (lt_of_cell hBl)).trans hBl
  have hrw := hr.below hB (fun k hk _ => hk)
  have hln : l.length = n := by have := hr.1; simp at this; omega
  have hma : (l.getD i default).1.size ≤ 1000 ∧ (l.getD i default).2.size ≤ 1000 := by
    have hi : i < l.length := by omega
    have e : l.getD i default = l[i] := by simp [List.getD, hi]
    rw [e]
    exact hM _ (List.getElem_mem hi)
  have hw1 : Wr (W.alloc (.cells #[.int .i64 (i : Int)] 3)) g F b l0 := hw.chg ((Chg.refl (fun _ => False) W).alloc _) (fun _ _ _ h => h)
  have hput := put11_ok A n c l (fun k => G k) Bl W.heap.size i (W.alloc (.cells #[.int .i64 (i : Int)] 3)) ((World.cell?_alloc_lt _ _ _ (lt_of_cell c1)).trans c1) ((Blk.new W 3 #[.int .i64 (i : Int)]).cell 0) (hrw.alloc _) hk
  have HP := Lib.hid hput
  have HM := Lib.hid hma
  clear hput hma hln hM
  show Calls _ _ #[_, _, _] _ _
  go_enter Tryz.func117, Tryz.ntmps117
  go_wp2_with (go_at_call 69; refine (tlv_List g F b l0 3 2 1005 118 #[.pointer (some ⟨Bl, 0, none⟩), .pointer (some ⟨W.heap.size, 0, none⟩)] (stpA (l.getD i default)) _ hw1 hl (fun k hk => by have := (hF k hk).2; simp; omega) enters11 HP.out (by omega) (fun j s _ => stpA_len _ HM.out j s) (by omega)).mono ?_; rintro e w' ⟨rfl, hw', hc'⟩)
  go_end0
  exact ⟨rfl, hw'.more (fun k _ h => h.imp id (fun h => by simp at h; omega)), ((Chg.refl F W).alloc _).same hc'⟩

theorem stpB_len (l : List AttrD) (hM : ∀ a ∈ l, a.1.size ≤ 1000 ∧ a.2.size ≤ 1000) (i : Nat) (s : Int × List UInt8) (hi : i < l.length) : s.2.length ≤ (stpB l i s).2.length ∧ (stpB l i s).2.length ≤ s.2.length + 2015 := by
  have e : l.getD i default = l[i] := by simp [List.getD, hi]
  have := listZ_len (stp := stpA (l.getD i default)) (L := 1005) (n := 2) (fun j s _ => stpA_len _ (by rw [e]; exact hM _ (List.getElem_mem hi)) j s) s 3
  rw [stpB]; omega

set_option maxRecDepth 100000 in
set_option maxHeartbeats 1000000 in
theorem entry_Put (g : Nat) (F : Nat → Prop) (bad : Int) (l0 : List UInt8) (tag : UInt8) (A : Option Addr) (n c : Nat) (l : List AttrD) (G : Nat → Prop) (w : World) (hw : Wr w g F bad l0) (hl0 : l0.length ≤ 1073741824) (hF : ∀ k, F k → k < w.heap.size)
    (hr : Rd w G A n 2 (attrCells l)) (hM : ∀ a ∈ l, a.1.size ≤ 1000 ∧ a.2.size ≤ 1000) (hn : n ≤ 50) :
    Calls Tryz.prog 95 #[.pointer (some ⟨g, 0, none⟩), .int .u8 (tag.toNat : Int), .slice A n c] w fun e w' => e = .returned (.tuple #[]) ∧
      Wr w' g (fun k => F k ∨ w.heap.size ≤ k) (attrsZ (bad, l0) tag l).1 (attrsZ (bad, l0) tag l).2 ∧ Chg F w w' := by
  have hln : l.length = n := by have := hr.1; simp at this; omega
  have hw1 : Wr (w.alloc (.cells #[.slice A n c] 66)) g F bad l0 := hw.chg ((Chg.refl (fun _ => False) w).alloc _) (fun _ _ _ h => h)
  have hput := put1_ok A n c l (fun k => G k) w.heap.size (w.alloc (.cells #[.slice A n c] 66)) ((Blk.new w 66 #[.slice A n c]).cell 0) (hr.alloc _) hM
  have hst : ∀ (i : Nat) (s : Int × List UInt8), i < n → s.2.length ≤ (stpB l i s).2.length ∧ (stpB l i s).2.length ≤ s.2.length + 2015 := fun i s hi => stpB_len l hM i s (by omega)
  have HP := Lib.hid hput
  have HS := Lib.hid hst
  have HL := Lib.hid hln
  clear hput hst hln hM
  go_enter Tryz.func95, Tryz.ntmps95
  go_wp2_with (go_at_call 69; (with_reducible refine (tlv_List g F bad l0 tag n 2015 117 #[.pointer (some ⟨w.heap.size, 0, none⟩)] (stpB l) _ hw1 hl0 (fun k hk => by have := hF k hk; simp; omega) enters1 HP.out (by omega) HS.out (by omega)).mono ?_); rintro e w' ⟨rfl, hw', hc'⟩)
  go_end0
  refine ⟨rfl, ?_, ((Chg.refl F w).alloc _).same hc'⟩
  rw [attrsZ, HL.out]
  exact hw'.more (fun k _ h => h.imp id (fun h => by simp at h; omega))

/-- an entry: its name, its attributes -/
abbrev EntryD := ByteArray × List AttrD
def mayEntryD (e : EntryD) : Bool := mayNameL e.1.data.toList && mayAttrsD e.2

set_option maxRecDepth 100000 in
set_option maxHeartbeats 1000000 in
theorem entry_MayEntry (e : EntryD) (A : Option Addr) (n c : Nat) (G : Nat → Prop) (w : World) (hr : Rd w G A n 2 (attrCells e.2)) (hn : n ≤ 1048576) :
    Calls Tryz.prog 66 #[.agg #[.string e.1, .slice A n c]] w fun r w' => r = .returned (.bool (mayEntryD e)) ∧ Below w.heap.size w w' := by
  have hB := (Below.refl w.heap.size w).alloc (Nat.le_refl _) (.cells #[.string e.1, .slice A n c] 68)
  have hBlk := Blk.new w 68 #[.string e.1, .slice A n c]
  cases ht : mayNameL e.1.data.toList
  · have hx : mayEntryD e = false := by rw [mayEntryD, ht]; rfl
    have HR := Lib.hid hx
    have HT := Lib.hid ht
    clear hx ht
    go_enter Tryz.func66, Tryz.ntmps66
    go_wp2_with (go_at_call 90; (with_reducible refine (entry_MayName _ _).mono ?_); rintro e w' ⟨rfl, hb⟩; rw [HT.out])
    go_ret
    exact ⟨by rw [HR.out]; rfl, hB.trans (hb.mono (by simp))⟩
  · have hx : mayEntryD e = mayAttrsD e.2 := by rw [mayEntryD, ht]; rfl
    have HR := Lib.hid hx
    have HT := Lib.hid ht
    clear hx ht
    go_enter Tryz.func66, Tryz.ntmps66
    go_wp2_with (first
      | (go_at_call 90; (with_reducible refine (entry_MayName _ _).mono ?_); rintro e' w1 ⟨rfl, hb⟩; rw [HT.out]; have d1 : w1.cell? ⟨w.heap.size, 1, none⟩ = some (.slice A n c) := (hBlk.below hb (by simp)).cell 1; have hB1 := hB.trans (hb.mono (by simp)); have hr1 := hr.below hB1 (fun k hk _ => hk))
      | (go_at_call 91; (with_reducible refine (entry_MayAttrs _ _ _ e.2 _ _ hr1 hn).mono ?_); rintro e' w2 ⟨rfl, hb2⟩))
    go_ret
    exact ⟨by rw [HR.out]; rfl, hB1.trans (hb2.mono hB1.size)⟩

end Go.Proofs.YtenjdidjjggefaaGreat
