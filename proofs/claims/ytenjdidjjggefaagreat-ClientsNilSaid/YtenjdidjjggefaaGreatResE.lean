import Derived.Test.YtenjdidjjggefaaGreatResD
namespace Go.Proofs.YtenjdidjjggefaaGreat
open Go.RowKit Go.Shelf Go.Sort

theorem enters70 : ∀ args W, (callFunc 70 args).run Tryz.prog W = .ok (.enter 70 args) W := enters_of Tryz.func70 (by kernel_rfl) rfl

theorem wrap_code (code : Nat) (h : code ≤ 14) : IntKind.u64.wrap (code : Int) = code := by rw [IntKind.wrap_u64]; omega

theorem resZ_len (r : ResD) (hes : ∀ e ∈ r.es, mayEntryD e = true) (hn : r.es.length ≤ 1000) (hm : r.cur.length ≤ 4000) : (resZ r).2.length ≤ 110000000 := by
  have h1 := putZ_len (0, []) 1 (be8 r.code.toNat)
  have h2 := putZ_len (putZ (0, []) 1 (be8 r.code.toNat)) 2 [if r.yes then 1 else 0]
  have h3 := listZ_len (stp := stpR r.es) (L := 105005) (n := r.es.length) (fun i s hi => stpR_len r.es hes i s hi) (putZ (putZ (0, []) 1 (be8 r.code.toNat)) 2 [if r.yes then 1 else 0]) 3
  have h4 := putZ_len (listZ (putZ (putZ (0, []) 1 (be8 r.code.toNat)) 2 [if r.yes then 1 else 0]) 3 r.es.length (stpR r.es)) 4 r.cur
  have h5 : r.es.length * 105005 ≤ 1000 * 105005 := Nat.mul_le_mul_right _ hn
  simp only [be8, List.length_cons, List.length_nil] at h1 h2
  simp only [be8] at h2 h3 h4
  rw [resZ]
  simp only [be8]
  omega

set_option maxRecDepth 100000 in
set_option maxHeartbeats 1000000 in
theorem result_bytes_ok (code : Nat) (yes : Bool) (es : List EntryD) (cur : List UInt8) (A B : Option Addr) (n c m k : Nat) (G : Nat → Prop) (w : World) (hE : RE w G A n es) (hC : Rd w G B m 1 (bV cur)) (hn : n ≤ 1000) (hm : m ≤ 4000)
    (hes : ∀ e ∈ es, mayEntryD e = true) (hc1 : code ≤ 14) (hz : (resZ ⟨code, yes, es, cur⟩).1 = 0) :
    Calls Tryz.prog 47 #[.agg #[.int .i64 (code : Int), .bool yes, .slice A n c, .slice B m k]] w (EndSays (resZ ⟨code, yes, es, cur⟩) w) := by
  have hln : es.length = n := hE.1
  have hlm : cur.length = m := by have := hC.1; simp at this; omega
  have hlen := resZ_len ⟨code, yes, es, cur⟩ hes (by simpa using (by omega : es.length ≤ 1000)) (by simpa using (by omega : cur.length ≤ 4000))
  have hrz : resZ ⟨code, yes, es, cur⟩ = putZ (listZ (putZ (putZ (0, []) 1 (be8 code)) 2 [if yes then 1 else 0]) 3 n (stpR es)) 4 cur := by rw [resZ, ← hln]; rfl
  have h1 := putZ_len (0, []) 1 (be8 code)
  have h2 := putZ_len (putZ (0, []) 1 (be8 code)) 2 [if yes then 1 else 0]
  have h3 := listZ_len (stp := stpR es) (L := 105005) (n := n) (fun i s hi => stpR_len es hes i s (by omega)) (putZ (putZ (0, []) 1 (be8 code)) 2 [if yes then 1 else 0]) 3
  have h5 : n * 105005 ≤ 1000 * 105005 := Nat.mul_le_mul_right _ hn
  have h6 : (be8 code).length = 8 := rfl
  rw [h6] at h1
  simp only [List.length_nil] at h1
  have hL1 : (putZ (0, []) 1 (be8 code)).2.length ≤ 1073741824 := by omega
  simp only [List.length_cons, List.length_nil] at h2
  have hL2 : (putZ (putZ (0, []) 1 (be8 code)) 2 [if yes then 1 else 0]).2.length ≤ 1073741824 := by omega
  have hL3 : (listZ (putZ (putZ (0, []) 1 (be8 code)) 2 [if yes then 1 else 0]) 3 n (stpR es)).2.length ≤ 1073741824 := by omega
  have HL1 := Lib.hid hL1
  have HL2 := Lib.hid hL2
  have HL3 := Lib.hid hL3
  have HLEN := Lib.hid hlen
  have HRZ := Lib.hid hrz
  have HZ := Lib.hid hz
  have HES := Lib.hid hes
  have HST : Hid (∀ i s, i < n → s.2.length ≤ (stpR es i s).2.length ∧ (stpR es i s).2.length ≤ s.2.length + 105005) := fun i s hi => stpR_len es hes i s (by omega)
  have HN5 := Lib.hid h5
  clear h1 h2 h3 h5 h6 hL1 hL2 hL3 hlen hrz hz hes hln
  obtain ⟨w0, hw0⟩ : ∃ w0, w.alloc (.cells #[.int .i64 (code : Int), .bool yes, .slice A n c, .slice B m k] 37) = w0 := ⟨_, rfl⟩
  have hk0 : Blk w0 w.heap.size 37 #[.int .i64 (code : Int), .bool yes, .slice A n c, .slice B m k] := hw0 ▸ Blk.new _ _ _
  have hB0 : Below w.heap.size w w0 := hw0 ▸ (Below.refl w.heap.size w).alloc (Nat.le_refl _) _
  have hE0 : RE w0 (fun k => G k ∧ k < w.heap.size) A n es := hw0 ▸ (hE.more (G' := fun k => G k ∧ k < w.heap.size) (fun k h1 h2 => ⟨h2, h1⟩)).alloc _
  have hC0 : Rd w0 (fun k => G k ∧ k < w.heap.size) B m 1 (bV cur) := hw0 ▸ hC.lt.alloc _
  have HW := Lib.hid hw0
  have hs0 : w0.heap.size = w.heap.size + 1 := by rw [← hw0]; simp
  clear hw0
  have c0 : w0.cell? ⟨w.heap.size, 0, none⟩ = some (.int .i64 (code : Int)) := hk0.cell 0
  have c1 : w0.cell? ⟨w.heap.size, 1, none⟩ = some (.bool yes) := hk0.cell 1
  have c2 : w0.cell? ⟨w.heap.size, 2, none⟩ = some (.slice A n c) := hk0.cell 2
  have c3 : w0.cell? ⟨w.heap.size, 3, none⟩ = some (.slice B m k) := hk0.cell 3
  have e0 := World.new_ne w0 ⟨w.heap.size, 0, none⟩ c0
  have e1 := World.new_ne w0 ⟨w.heap.size, 1, none⟩ c1
  have e2 := World.new_ne w0 ⟨w.heap.size, 2, none⟩ c2
  have e3 := World.new_ne w0 ⟨w.heap.size, 3, none⟩ c3
  have HS0 := Lib.hid hs0
  have hwn : Wr (w0.alloc (.cells #[Value.slice none 0 0, Value.int .i64 0] 125)).drew w0.heap.size (fun k => w0.heap.size ≤ k ∧ k < w0.heap.size + 1) 0 [] := wr_new w0
  have HCV := Lib.hid (wrap_code code hc1)
  clear hs0
  go_enter Tryz.func47, Tryz.ntmps47
  go_wp2
  rw [HW.out]
  go_region_held3 (fun w' => w'.cell? ⟨w.heap.size, 0, none⟩ = some (.int .i64 (code : Int)) ∧ w'.cell? ⟨w.heap.size, 1, none⟩ = some (.bool yes) ∧ w'.cell? ⟨w.heap.size, 2, none⟩ = some (.slice A n c) ∧ w'.cell? ⟨w.heap.size, 3, none⟩ = some (.slice B m k)) (go_keep) (first
    | (go_at_call 67; rw [HCV.out]; refine (tlv_Number w0.heap.size _ 0 [] 1 code _ hwn (by simp) (by simp) (by omega)).mono ?_; rintro e' w1 ⟨rfl, hw1, hc1⟩; have hz1 := hc1.size; simp at hz1; have hb1 : Below w0.heap.size w0 w1 := (((Below.refl w0.heap.size w0).alloc (Nat.le_refl _) (.cells #[Value.slice none 0 0, Value.int .i64 0] 125))).drew.trans (hc1.below (by simp) (fun k hk h => by omega)); have k1 := hk0.below hb1 (by have := HS0.out; omega); have f0 := k1.cell 0; have f1 := k1.cell 1; have f2 := k1.cell 2; have f3 := k1.cell 3; simp only [List.getElem?_toArray, List.getElem?_cons_zero, List.getElem?_cons_succ] at f0 f1 f2 f3; have hw1' := hw1.more (H := fun k => w0.heap.size ≤ k ∧ k < w1.heap.size) (fun k h1 h => by simp at h; omega))
    | (go_at_call 68; refine (tlv_Flag w0.heap.size _ _ _ 2 yes _ hw1' HL1.out (fun k hk => hk.2)).mono ?_; rintro e' w2 ⟨rfl, hw2, hc2⟩; have hz2 := hc2.size; have hb2 : Below w0.heap.size w0 w2 := hb1.trans (hc2.below hb1.size (fun k hk h => by omega)); have k2 := hk0.below hb2 (by have := HS0.out; omega); have f0 := k2.cell 0; have f1 := k2.cell 1; have f2 := k2.cell 2; have f3 := k2.cell 3; simp only [List.getElem?_toArray, List.getElem?_cons_zero, List.getElem?_cons_succ] at f0 f1 f2 f3; have hw2' := hw2.more (H := fun k => w0.heap.size ≤ k ∧ k < w2.heap.size) (fun k h1 h => by omega))
    | (go_at_call 69; refine (tlv_List w0.heap.size _ _ _ 3 n 105005 70 #[.pointer (some ⟨w.heap.size, 0, none⟩)] (stpR es) _ hw2' HL2.out (fun k hk => hk.2) enters70 (res1_ok A n c es _ w.heap.size _ (k2.cell 2) (hE0.below hb2 (fun k hk h => by have := HS0.out; omega)) HES.out) (by omega) HST.out (by have := HN5.out; omega)).mono ?_; rintro e' w3 ⟨rfl, hw3, hc3⟩; have hz3 := hc3.size; have hb3 : Below w0.heap.size w0 w3 := hb2.trans (hc3.below hb2.size (fun k hk h => by omega)); have k3 := hk0.below hb3 (by have := HS0.out; omega); have f0 := k3.cell 0; have f1 := k3.cell 1; have f2 := k3.cell 2; have f3 := k3.cell 3; simp only [List.getElem?_toArray, List.getElem?_cons_zero, List.getElem?_cons_succ] at f0 f1 f2 f3; have hw3' := hw3.more (H := fun k => w0.heap.size ≤ k ∧ k < w3.heap.size) (fun k h1 h => by omega))
    | (go_at_call 72; refine (tlv_Bytes w0.heap.size _ _ _ _ 4 _ _ _ cur _ hw3' (hC0.below hb3 (fun k hk h => by have := HS0.out; omega)) (fun k _ hk hf => by have := HS0.out; omega) HL3.out).mono ?_; rintro e' w4 ⟨rfl, hw4, hc4⟩; have hz4 := hc4.size; have hb4 : Below w0.heap.size w0 w4 := hb3.trans (hc4.below hb3.size (fun k hk h => by omega)); have k4 := hk0.below hb4 (by have := HS0.out; omega); have f0 := k4.cell 0; have f1 := k4.cell 1; have f2 := k4.cell 2; have f3 := k4.cell 3; simp only [List.getElem?_toArray, List.getElem?_cons_zero, List.getElem?_cons_succ] at f0 f1 f2 f3; have hw4' := hw4; rw [← HRZ.out] at hw4')
    | (go_at_call 73; rw [HZ.out] at hw4'; refine (tlv_End _ _ _ _ hw4' (by have := HLEN.out; omega)).mono ?_; rintro r w5 ⟨v, rfl, ho5, hb5⟩; have hb6 := hb4.trans (hb5.mono hb4.size); have k5 := hk0.below hb6 (by have := HS0.out; omega); have f0 := k5.cell 0; have f1 := k5.cell 1; have f2 := k5.cell 2; have f3 := k5.cell 3; simp only [List.getElem?_toArray, List.getElem?_cons_zero, List.getElem?_cons_succ] at f0 f1 f2 f3))
  all_goals go_wp2
  all_goals go_ret2
  all_goals (refine ⟨?_, hB0.trans (hb6.mono hB0.size)⟩; rw [if_pos HZ.out]; exact ⟨_, rfl, own_base ho5 (fun k hk => Nat.le_trans (Nat.le_trans hB0.size hb4.size) (ho5.lt k hk).1)⟩)

set_option maxRecDepth 100000 in
set_option maxHeartbeats 1000000 in
theorem result_bytes_no (code : Nat) (yes : Bool) (es : List EntryD) (cur : List UInt8) (A B : Option Addr) (n c m k : Nat) (G : Nat → Prop) (w : World) (hE : RE w G A n es) (hC : Rd w G B m 1 (bV cur)) (hn : n ≤ 1000) (hm : m ≤ 4000)
    (hes : ∀ e ∈ es, mayEntryD e = true) (hc1 : code ≤ 14) (hz : (resZ ⟨code, yes, es, cur⟩).1 ≠ 0) :
    Calls Tryz.prog 47 #[.agg #[.int .i64 (code : Int), .bool yes, .slice A n c, .slice B m k]] w (EndSays (resZ ⟨code, yes, es, cur⟩) w) := by
  have hln : es.length = n := hE.1
  have hlm : cur.length = m := by have := hC.1; simp at this; omega
  have hlen := resZ_len ⟨code, yes, es, cur⟩ hes (by simpa using (by omega : es.length ≤ 1000)) (by simpa using (by omega : cur.length ≤ 4000))
  have hrz : resZ ⟨code, yes, es, cur⟩ = putZ (listZ (putZ (putZ (0, []) 1 (be8 code)) 2 [if yes then 1 else 0]) 3 n (stpR es)) 4 cur := by rw [resZ, ← hln]; rfl
  have h1 := putZ_len (0, []) 1 (be8 code)
  have h2 := putZ_len (putZ (0, []) 1 (be8 code)) 2 [if yes then 1 else 0]
  have h3 := listZ_len (stp := stpR es) (L := 105005) (n := n) (fun i s hi => stpR_len es hes i s (by omega)) (putZ (putZ (0, []) 1 (be8 code)) 2 [if yes then 1 else 0]) 3
  have h5 : n * 105005 ≤ 1000 * 105005 := Nat.mul_le_mul_right _ hn
  have h6 : (be8 code).length = 8 := rfl
  rw [h6] at h1
  simp only [List.length_nil] at h1
  have hL1 : (putZ (0, []) 1 (be8 code)).2.length ≤ 1073741824 := by omega
  simp only [List.length_cons, List.length_nil] at h2
  have hL2 : (putZ (putZ (0, []) 1 (be8 code)) 2 [if yes then 1 else 0]).2.length ≤ 1073741824 := by omega
  have hL3 : (listZ (putZ (putZ (0, []) 1 (be8 code)) 2 [if yes then 1 else 0]) 3 n (stpR es)).2.length ≤ 1073741824 := by omega
  have HL1 := Lib.hid hL1
  have HL2 := Lib.hid hL2
  have HL3 := Lib.hid hL3
  have HLEN := Lib.hid hlen
  have HRZ := Lib.hid hrz
  have HZ := Lib.hid hz
  have HES := Lib.hid hes
  have HST : Hid (∀ i s, i < n → s.2.length ≤ (stpR es i s).2.length ∧ (stpR es i s).2.length ≤ s.2.length + 105005) := fun i s hi => stpR_len es hes i s (by omega)
  have HN5 := Lib.hid h5
  clear h1 h2 h3 h5 h6 hL1 hL2 hL3 hlen hrz hz hes hln
  obtain ⟨w0, hw0⟩ : ∃ w0, w.alloc (.cells #[.int .i64 (code : Int), .bool yes, .slice A n c, .slice B m k] 37) = w0 := ⟨_, rfl⟩
  have hk0 : Blk w0 w.heap.size 37 #[.int .i64 (code : Int), .bool yes, .slice A n c, .slice B m k] := hw0 ▸ Blk.new _ _ _
  have hB0 : Below w.heap.size w w0 := hw0 ▸ (Below.refl w.heap.size w).alloc (Nat.le_refl _) _
  have hE0 : RE w0 (fun k => G k ∧ k < w.heap.size) A n es := hw0 ▸ (hE.more (G' := fun k => G k ∧ k < w.heap.size) (fun k h1 h2 => ⟨h2, h1⟩)).alloc _
  have hC0 : Rd w0 (fun k => G k ∧ k < w.heap.size) B m 1 (bV cur) := hw0 ▸ hC.lt.alloc _
  have HW := Lib.hid hw0
  have hs0 : w0.heap.size = w.heap.size + 1 := by rw [← hw0]; simp
  clear hw0
  have c0 : w0.cell? ⟨w.heap.size, 0, none⟩ = some (.int .i64 (code : Int)) := hk0.cell 0
  have c1 : w0.cell? ⟨w.heap.size, 1, none⟩ = some (.bool yes) := hk0.cell 1
  have c2 : w0.cell? ⟨w.heap.size, 2, none⟩ = some (.slice A n c) := hk0.cell 2
  have c3 : w0.cell? ⟨w.heap.size, 3, none⟩ = some (.slice B m k) := hk0.cell 3
  have e0 := World.new_ne w0 ⟨w.heap.size, 0, none⟩ c0
  have e1 := World.new_ne w0 ⟨w.heap.size, 1, none⟩ c1
  have e2 := World.new_ne w0 ⟨w.heap.size, 2, none⟩ c2
  have e3 := World.new_ne w0 ⟨w.heap.size, 3, none⟩ c3
  have HS0 := Lib.hid hs0
  have hwn : Wr (w0.alloc (.cells #[Value.slice none 0 0, Value.int .i64 0] 125)).drew w0.heap.size (fun k => w0.heap.size ≤ k ∧ k < w0.heap.size + 1) 0 [] := wr_new w0
  have HCV := Lib.hid (wrap_code code hc1)
  clear hs0
  go_enter Tryz.func47, Tryz.ntmps47
  go_wp2
  rw [HW.out]
  go_region_held3 (fun w' => w'.cell? ⟨w.heap.size, 0, none⟩ = some (.int .i64 (code : Int)) ∧ w'.cell? ⟨w.heap.size, 1, none⟩ = some (.bool yes) ∧ w'.cell? ⟨w.heap.size, 2, none⟩ = some (.slice A n c) ∧ w'.cell? ⟨w.heap.size, 3, none⟩ = some (.slice B m k)) (go_keep) (first
    | (go_at_call 67; rw [HCV.out]; refine (tlv_Number w0.heap.size _ 0 [] 1 code _ hwn (by simp) (by simp) (by omega)).mono ?_; rintro e' w1 ⟨rfl, hw1, hc1⟩; have hz1 := hc1.size; simp at hz1; have hb1 : Below w0.heap.size w0 w1 := (((Below.refl w0.heap.size w0).alloc (Nat.le_refl _) (.cells #[Value.slice none 0 0, Value.int .i64 0] 125))).drew.trans (hc1.below (by simp) (fun k hk h => by omega)); have k1 := hk0.below hb1 (by have := HS0.out; omega); have f0 := k1.cell 0; have f1 := k1.cell 1; have f2 := k1.cell 2; have f3 := k1.cell 3; simp only [List.getElem?_toArray, List.getElem?_cons_zero, List.getElem?_cons_succ] at f0 f1 f2 f3; have hw1' := hw1.more (H := fun k => w0.heap.size ≤ k ∧ k < w1.heap.size) (fun k h1 h => by simp at h; omega))
    | (go_at_call 68; refine (tlv_Flag w0.heap.size _ _ _ 2 yes _ hw1' HL1.out (fun k hk => hk.2)).mono ?_; rintro e' w2 ⟨rfl, hw2, hc2⟩; have hz2 := hc2.size; have hb2 : Below w0.heap.size w0 w2 := hb1.trans (hc2.below hb1.size (fun k hk h => by omega)); have k2 := hk0.below hb2 (by have := HS0.out; omega); have f0 := k2.cell 0; have f1 := k2.cell 1; have f2 := k2.cell 2; have f3 := k2.cell 3; simp only [List.getElem?_toArray, List.getElem?_cons_zero, List.getElem?_cons_succ] at f0 f1 f2 f3; have hw2' := hw2.more (H := fun k => w0.heap.size ≤ k ∧ k < w2.heap.size) (fun k h1 h => by omega))
    | (go_at_call 69; refine (tlv_List w0.heap.size _ _ _ 3 n 105005 70 #[.pointer (some ⟨w.heap.size, 0, none⟩)] (stpR es) _ hw2' HL2.out (fun k hk => hk.2) enters70 (res1_ok A n c es _ w.heap.size _ (k2.cell 2) (hE0.below hb2 (fun k hk h => by have := HS0.out; omega)) HES.out) (by omega) HST.out (by have := HN5.out; omega)).mono ?_; rintro e' w3 ⟨rfl, hw3, hc3⟩; have hz3 := hc3.size; have hb3 : Below w0.heap.size w0 w3 := hb2.trans (hc3.below hb2.size (fun k hk h => by omega)); have k3 := hk0.below hb3 (by have := HS0.out; omega); have f0 := k3.cell 0; have f1 := k3.cell 1; have f2 := k3.cell 2; have f3 := k3.cell 3; simp only [List.getElem?_toArray, List.getElem?_cons_zero, List.getElem?_cons_succ] at f0 f1 f2 f3; have hw3' := hw3.more (H := fun k => w0.heap.size ≤ k ∧ k < w3.heap.size) (fun k h1 h => by omega))
    | (go_at_call 72; refine (tlv_Bytes w0.heap.size _ _ _ _ 4 _ _ _ cur _ hw3' (hC0.below hb3 (fun k hk h => by have := HS0.out; omega)) (fun k _ hk hf => by have := HS0.out; omega) HL3.out).mono ?_; rintro e' w4 ⟨rfl, hw4, hc4⟩; have hz4 := hc4.size; have hb4 : Below w0.heap.size w0 w4 := hb3.trans (hc4.below hb3.size (fun k hk h => by omega)); have k4 := hk0.below hb4 (by have := HS0.out; omega); have f0 := k4.cell 0; have f1 := k4.cell 1; have f2 := k4.cell 2; have f3 := k4.cell 3; simp only [List.getElem?_toArray, List.getElem?_cons_zero, List.getElem?_cons_succ] at f0 f1 f2 f3; have hw4' := hw4; rw [← HRZ.out] at hw4')
    | (go_at_call 73; refine (tlv_End_bad _ _ _ HZ.out _ _ hw4').mono ?_; rintro r w5 ⟨rfl, hb5⟩; have hb6 := hb4.trans (hb5.mono hb4.size); have k5 := hk0.below hb6 (by have := HS0.out; omega); have f0 := k5.cell 0; have f1 := k5.cell 1; have f2 := k5.cell 2; have f3 := k5.cell 3; simp only [List.getElem?_toArray, List.getElem?_cons_zero, List.getElem?_cons_succ] at f0 f1 f2 f3))
  all_goals go_wp2
  all_goals go_ret2
  all_goals (refine ⟨?_, hB0.trans (hb6.mono hB0.size)⟩; rw [if_neg HZ.out]; rfl)

end Go.Proofs.YtenjdidjjggefaaGreat
