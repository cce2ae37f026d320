import Derived.Test.YtenjdidjjggefaaGreatTlvW
import Derived.Lib.ConvBytes
import Derived.LoopN
namespace Go.Proofs.YtenjdidjjggefaaGreat
open Go.RowKit Go.Shelf

theorem bw_rd (w : World) (e : TypeId) (s : ByteArray) : Rd (Lib.bytesWorld w e s) (· = w.heap.size) (some ⟨w.heap.size, 0, none⟩) s.size 1 (bV s.data.toList) :=
  ⟨by rw [bV_length, Lib.size_eq, Nat.mul_one], fun _ => ⟨_, 0, rfl, rfl, by rw [Lib.bytesWorld_size]; omega, fun j u hu => by
    rw [bV_getElem?] at hu
    have hj : j < s.size := by
      rw [Lib.size_eq]
      apply Decidable.byContradiction
      intro h
      rw [List.getElem?_eq_none (by omega)] at hu; cases hu
    have hl : j < s.data.toList.length := by rw [← Lib.size_eq]; exact hj
    rw [Nat.zero_add, Lib.bytesWorld_cell w e s j hj, ← hu, List.getElem?_eq_getElem hl, List.getD, List.getElem?_eq_getElem hl]
    rfl⟩⟩
theorem bw_below (w : World) (e : TypeId) (s : ByteArray) : Below w.heap.size w (Lib.bytesWorld w e s) :=
  ⟨rfl, rfl, rfl, by rw [Lib.bytesWorld_size]; omega, fun k hk => Lib.bytesWorld_at_old w e s k hk⟩

set_option maxRecDepth 100000 in
set_option maxHeartbeats 1000000 in
theorem tlv_Text (g : Nat) (F : Nat → Prop) (bad : Int) (l : List UInt8) (tag : UInt8) (s : ByteArray) (w : World)
    (hw : Wr w g F bad l) (hl : l.length ≤ 1073741824) (hF : ∀ k, F k → k < w.heap.size) :
    Calls Tryz.prog 94 #[.pointer (some ⟨g, 0, none⟩), .int .u8 (tag.toNat : Int), .string s] w fun e w' => e = .returned (.pointer (some ⟨g, 0, none⟩)) ∧
      Wr w' g (fun k => F k ∨ w.heap.size ≤ k) (putZ (bad, l) tag s.data.toList).1 (putZ (bad, l) tag s.data.toList).2 ∧ Chg F w w' := by
  have hcv := fun W => Lib.run_convert_string_bytes (P := Tryz.prog) W 9 35 5 s Tryz.underlying9 Tryz.underlying35 Tryz.underlying5
  have hb := bw_below w 5 s
  have hw1 : Wr (Lib.bytesWorld w 5 s) g F bad l := hw.chg (Chg.of_below' hb (fun _ => False)) (fun _ _ _ h => h)
  have hr := bw_rd w 5 s
  go_enter Tryz.func94, Tryz.ntmps94
  go_wp2_with (go_at_call 72; refine (tlv_Bytes g F (· = w.heap.size) bad l tag _ _ _ s.data.toList _ hw1 hr (by rintro k _ rfl hk; have := hF _ hk; omega) hl).mono ?_; rintro e w' ⟨rfl, hb', hc'⟩)
  go_ret
  refine ⟨rfl, hb'.more (fun k _ h => h.imp id (fun h => by rw [Lib.bytesWorld_size] at h; omega)), (Chg.of_below' hb F).same hc'⟩

/-- eight bytes of a number -/
def be8 (n : Nat) : List UInt8 := [UInt8.ofNat (n / 72057594037927936), UInt8.ofNat (n / 281474976710656), UInt8.ofNat (n / 1099511627776), UInt8.ofNat (n / 4294967296), UInt8.ofNat (n / 16777216), UInt8.ofNat (n / 65536), UInt8.ofNat (n / 256), UInt8.ofNat n]

theorem be8_cells (n : Nat) (h : n < 18446744073709551616) :
    [Value.int .u8 ((n : Int) / 72057594037927936), .int .u8 ((n : Int) / 281474976710656 % 256), .int .u8 ((n : Int) / 1099511627776 % 256), .int .u8 ((n : Int) / 4294967296 % 256), .int .u8 ((n : Int) / 16777216 % 256), .int .u8 ((n : Int) / 65536 % 256), .int .u8 ((n : Int) / 256 % 256), .int .u8 ((n : Int) % 256)] = bV (be8 n) := by
  have h1 : (n / 72057594037927936) % 256 = n / 72057594037927936 := by omega
  simp [bV, be8, UInt8.toNat_ofNat', h1]

set_option maxRecDepth 100000 in
set_option maxHeartbeats 4000000 in
theorem tlv_Number (g : Nat) (F : Nat → Prop) (bad : Int) (l : List UInt8) (tag : UInt8) (n : Nat) (w : World)
    (hw : Wr w g F bad l) (hl : l.length ≤ 1073741824) (hF : ∀ k, F k → k < w.heap.size) (hn : n < 18446744073709551616) :
    Calls Tryz.prog 67 #[.pointer (some ⟨g, 0, none⟩), .int .u8 (tag.toNat : Int), .int .u64 n] w fun e w' => e = .returned (.pointer (some ⟨g, 0, none⟩)) ∧
      Wr w' g (fun k => F k ∨ w.heap.size ≤ k) (putZ (bad, l) tag (be8 n)).1 (putZ (bad, l) tag (be8 n)).2 ∧ Chg F w w' := by
  have hmk : ∀ w, (Instr.makeSlice 35 (.int .i64 8) (.int .i64 8)).run Tryz.prog w = .ok (.slice (some ⟨w.heap.size, 0, none⟩) 8 8) (w.alloc (.cells #[.int .u8 0, .int .u8 0, .int .u8 0, .int .u8 0, .int .u8 0, .int .u8 0, .int .u8 0, .int .u8 0] 5)) := fun _ => by kernel_rfl
  go_enter Tryz.func67, Tryz.ntmps67
  go_wp2
  refine wp_loop_rounds 9 ?_
  iterate 8
    rw [rounds_succ]
    go_wp2
  rw [rounds_succ]
  have hr := Rd.new w [Value.int .u8 ((n : Int) / 72057594037927936), .int .u8 ((n : Int) / 281474976710656 % 256), .int .u8 ((n : Int) / 1099511627776 % 256), .int .u8 ((n : Int) / 4294967296 % 256), .int .u8 ((n : Int) / 16777216 % 256), .int .u8 ((n : Int) / 65536 % 256), .int .u8 ((n : Int) / 256 % 256), .int .u8 ((n : Int) % 256)] 5
  rw [be8_cells n hn] at hr
  have hw1 := hw.chg (w' := w.alloc (.cells (bV (be8 n)).toArray 5)) ((Chg.refl (fun _ => False) w).alloc _) (fun _ _ _ h => h)
  rw [← be8_cells n hn] at hw1
  rw [← be8_cells n hn] at hr
  have HR := Lib.hid hr
  clear hr
  go_wp2_with (go_at_call 72; refine (tlv_Bytes g F (· = w.heap.size) bad l tag _ 8 8 (be8 n) _ hw1 (by have := HR.out; rw [be8_cells n hn] at this ⊢; exact this) (by rintro k _ rfl hk; have := hF _ hk; omega) hl).mono ?_; rintro e w' ⟨rfl, hb', hc'⟩)
  go_ret
  exact ⟨rfl, hb'.more (fun k _ h => h.imp id (fun h => by simp at h; omega)), ((Chg.refl F w).alloc _).same hc'⟩

set_option maxRecDepth 100000 in
set_option maxHeartbeats 1000000 in
theorem tlv_Flag (g : Nat) (F : Nat → Prop) (bad : Int) (l : List UInt8) (tag : UInt8) (y : Bool) (w : World)
    (hw : Wr w g F bad l) (hl : l.length ≤ 1073741824) (hF : ∀ k, F k → k < w.heap.size) :
    Calls Tryz.prog 68 #[.pointer (some ⟨g, 0, none⟩), .int .u8 (tag.toNat : Int), .bool y] w fun e w' => e = .returned (.pointer (some ⟨g, 0, none⟩)) ∧
      Wr w' g (fun k => F k ∨ w.heap.size ≤ k) (putZ (bad, l) tag [if y then 1 else 0]).1 (putZ (bad, l) tag [if y then 1 else 0]).2 ∧ Chg F w w' := by
  cases y
  · have hr := Rd.new w (bV [0]) 5
    have hw1 : Wr (w.alloc (.cells #[.int .u8 0] 5)) g F bad l := hw.chg ((Chg.refl (fun _ => False) w).alloc _) (fun _ _ _ h => h)
    go_enter Tryz.func68, Tryz.ntmps68
    go_wp2_with (go_at_call 72; refine (tlv_Bytes g F (· = w.heap.size) bad l tag _ 1 1 [0] _ hw1 hr (by rintro k _ rfl hk; have := hF _ hk; omega) hl).mono ?_; rintro e w' ⟨rfl, hb', hc'⟩)
    go_ret
    exact ⟨rfl, hb'.more (fun k _ h => h.imp id (fun h => by simp at h; omega)), ((Chg.refl F w).alloc _).same hc'⟩
  · have hr := Rd.new w (bV [1]) 5
    have hw1 : Wr (w.alloc (.cells #[.int .u8 1] 5)) g F bad l := hw.chg ((Chg.refl (fun _ => False) w).alloc _) (fun _ _ _ h => h)
    go_enter Tryz.func68, Tryz.ntmps68
    go_wp2_with (go_at_call 72; refine (tlv_Bytes g F (· = w.heap.size) bad l tag _ 1 1 [1] _ hw1 hr (by rintro k _ rfl hk; have := hF _ hk; omega) hl).mono ?_; rintro e w' ⟨rfl, hb', hc'⟩)
    go_ret
    exact ⟨rfl, hb'.more (fun k _ h => h.imp id (fun h => by simp at h; omega)), ((Chg.refl F w).alloc _).same hc'⟩

set_option maxRecDepth 100000 in
set_option maxHeartbeats 1000000 in
theorem tlv_End (g : Nat) (F : Nat → Prop) (l : List UInt8) (w : World) (hw : Wr w g F 0 l) (hl : l.length ≤ 1073741824) :
    Calls Tryz.prog 73 #[.pointer (some ⟨g, 0, none⟩)] w fun e w' => ∃ v, e = .returned (.tuple #[v, .int .i64 0]) ∧ w'.ownsRow w.heap.size 5 1 v l.length (bV l) ∧ Below w.heap.size w w' := by
  obtain ⟨v, hb, ho, hFg, hFv⟩ := hw
  obtain ⟨vA, vc, rfl, _, _⟩ := own_form ho
  have h0 := hb.cell 0
  have h1 := hb.cell 1
  simp only [List.getElem?_toArray, List.getElem?_cons_zero, List.getElem?_cons_succ] at h0 h1
  have hr := Rd.of_own (G := fun _ => True) ho (fun _ _ => trivial)
  go_enter Tryz.func73, Tryz.ntmps73
  go_wp2_with (go_at_call 74; refine (clone_bytes _ _ _ l _ _ hr (by omega)).mono ?_; rintro e w' ⟨v2, rfl, ho2, hb2⟩)
  go_ret2
  exact ⟨_, rfl, ho2, hb2⟩

set_option maxRecDepth 100000 in
set_option maxHeartbeats 1000000 in
theorem tlv_End_bad (g : Nat) (F : Nat → Prop) (bad : Int) (hbad : bad ≠ 0) (l : List UInt8) (w : World) (hw : Wr w g F bad l) :
    Calls Tryz.prog 73 #[.pointer (some ⟨g, 0, none⟩)] w fun e w' => e = .returned (.tuple #[.slice none 0 0, .int .i64 bad]) ∧ Below w.heap.size w w' := by
  obtain ⟨v, hb, ho, hFg, hFv⟩ := hw
  have h1 := hb.cell 1
  simp only [List.getElem?_toArray, List.getElem?_cons_zero, List.getElem?_cons_succ] at h1
  have hb' : (bad != 0) = true := by simpa using hbad
  clear hbad
  go_enter Tryz.func73, Tryz.ntmps73
  go_wp2
  go_quiet (fail)
  go_wp2
  go_ret2
  exact ⟨rfl, below_drewN (Below.refl _ _) _⟩

end Go.Proofs.YtenjdidjjggefaaGreat
