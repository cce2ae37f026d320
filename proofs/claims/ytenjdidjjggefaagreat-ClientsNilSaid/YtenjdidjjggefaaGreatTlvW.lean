import Derived.Test.YtenjdidjjggefaaGreatMem
namespace Go.Proofs.YtenjdidjjggefaaGreat
open Go.RowKit Go.Shelf

theorem info_u8 : (Tryz.prog.info? 5).map (fun i => (i.zero, i.size, i.bytes)) = some (some (.int .u8 0), 1, 1) := by kernel_rfl

set_option maxRecDepth 100000 in
set_option maxHeartbeats 400000 in
theorem clone_bytes (A : Option Addr) (n c : Nat) (l : List UInt8) (G : Nat → Prop) (w : World) (hr : Rd w G A n 1 (bV l)) (hn : n ≤ 1099511627776) :
    Calls Tryz.prog 74 #[.slice A n c] w fun e w' => ∃ v, e = .returned v ∧ w'.ownsRow w.heap.size 5 1 v n (bV l) ∧ Below w.heap.size w w' := by
  obtain ⟨i0, hi, hz0, hz1, hz2⟩ := info_parts info_u8
  cases A with
  | none =>
    have h0 : n = 0 := by
      rcases Nat.eq_zero_or_pos n with h | h
      · exact h
      · obtain ⟨_, _, e, _⟩ := hr.2 h; cases e
    subst h0
    have hl : bV l = [] := List.eq_nil_of_length_eq_zero (by simpa using hr.1)
    have HL := Lib.hid hl
    clear hl
    have hE := fun (W : World) => Lib.run_eql_slice_nil (P := Tryz.prog) W 35 5 none 0 c 0 0 Tryz.underlying35
    go_enter Tryz.func74, Tryz.ntmps74
    go_wp2
    go_ret
    exact ⟨_, rfl, by rw [HL.out]; exact World.ownsRow_nil _ _ _ _, Below.refl _ _⟩
  | some a =>
    have hE := fun (W : World) => Lib.run_eql_slice_nil (P := Tryz.prog) W 35 5 (some a) n c 0 0 Tryz.underlying35
    go_enter Tryz.func74, Tryz.ntmps74
    go_wp2_with (at_builtin; refine wpList_append_rd _ rfl (.tmp 5) (.tmp 6) _ rfl w.heap.size 5 i0 _ 1 1 Tryz.underlying35 hi hz0 hz1 hz2 rfl (by omega) (.slice (some ⟨w.heap.size, 0, none⟩) 0 0) 0 [] rfl (World.ownsRow_lit w #[] 0 (Nat.le_refl _) (by unfold maxLen; omega) rfl) G (some a) n c (bV l) rfl (hr.alloc _) (bV_one l) (by unfold maxLen; omega) (by omega) (by simp) ?_; intro v1 w1 hown1 hg1 _ _)
    go_ret
    refine ⟨v1, rfl, ?_, ?_⟩
    · simpa using hown1
    · exact ((Below.refl _ w).alloc (Nat.le_refl _) _).grown hg1 (by simp) (by simp [Value.ownBlock])

/-- the writer behind a failure -/
def failZ (bad e : Int) : Int := if bad = 0 then e else bad

set_option maxRecDepth 100000 in
set_option maxHeartbeats 400000 in
theorem tlv_fail (g : Nat) (v : Value) (bad e0 : Int) (w : World) (hw : Blk w g 125 #[v, .int .i64 bad]) :
    Calls Tryz.prog 92 #[.pointer (some ⟨g, 0, none⟩), .int .i64 e0] w fun e w' => e = .returned (.pointer (some ⟨g, 0, none⟩)) ∧ Blk w' g 125 #[v, .int .i64 (failZ bad e0)] ∧ Chg (· = g) w w' := by
  have h1 : w.cell? ⟨g, 1, none⟩ = some (.int .i64 bad) := hw.cell 1
  have hf : w.frozen? ⟨g, 1, none⟩ = false := hw.frozen 1
  by_cases hb : bad = 0
  · subst hb
    go_enter Tryz.func92, Tryz.ntmps92
    go_wp2
    go_ret
    exact ⟨rfl, by simpa [failZ] using hw.set_ 1 (.int .i64 e0), (Chg.refl (· = g) w).setCell (p := ⟨g, 1, none⟩) (.inl rfl) _⟩
  · have hb' : (bad == 0) = false := by simpa using hb
    go_enter Tryz.func92, Tryz.ntmps92
    go_wp2
    go_ret
    exact ⟨rfl, by simpa [failZ, hb] using hw, Chg.refl _ w⟩

/-- block g is a writer that has put the bytes l; bad: why it failed; its blocks are in F -/
def Wr (w : World) (g : Nat) (F : Nat → Prop) (bad : Int) (l : List UInt8) : Prop :=
  ∃ v, Blk w g 125 #[v, .int .i64 bad] ∧ w.ownsRow 0 5 1 v l.length (bV l) ∧ F g ∧ ∀ k, v.ownBlock = some k → F k

theorem Wr.chg {w w' : World} {g : Nat} {F H : Nat → Prop} {bad : Int} {l : List UInt8} (h : Wr w g F bad l) (hc : Chg H w w') (hF : ∀ k, k < w.heap.size → F k → ¬ H k) : Wr w' g F bad l := by
  obtain ⟨v, h1, h2, h3, h4⟩ := h
  exact ⟨v, h1.chg hc (hF _ h1.lt h3), own_chg h2 hc (fun k hk => hF k ((h2.lt k hk).2) (h4 k hk)), h3, h4⟩
theorem Wr.more {w : World} {g : Nat} {F H : Nat → Prop} {bad : Int} {l : List UInt8} (h : Wr w g F bad l) (hF : ∀ k, k < w.heap.size → F k → H k) : Wr w g H bad l := by
  obtain ⟨v, h1, h2, h3, h4⟩ := h
  exact ⟨v, h1, h2, hF _ h1.lt h3, fun k hk => hF k ((h2.lt k hk).2) (h4 k hk)⟩

/-- four bytes of a number -/
def be4 (n : Nat) : List UInt8 := [UInt8.ofNat (n / 16777216), UInt8.ofNat (n / 65536), UInt8.ofNat (n / 256), UInt8.ofNat n]
/-- a value's bytes -/
def valL (tag : UInt8) (b : List UInt8) : List UInt8 := tag :: be4 b.length ++ b
/-- a writer behind a value that was put -/
def putZ (s : Int × List UInt8) (tag : UInt8) (b : List UInt8) : Int × List UInt8 :=
  if s.1 ≠ 0 then s else if 4194304 < b.length then (3, s.2) else if tag = 0 then (2, s.2) else (0, s.2 ++ valL tag b)

theorem hdr_cells (tag : UInt8) (n : Nat) (h : (n : Int) ≤ 4194304) :
    [Value.int .u8 (tag.toNat : Int), .int .u8 ((n : Int) / 16777216), .int .u8 ((n : Int) / 65536), .int .u8 ((n : Int) / 256 % 256), .int .u8 ((n : Int) % 256)] = bV (tag :: be4 n) := by
  have h1 : (n / 16777216) % 256 = n / 16777216 := by omega
  have h2 : (n / 65536) % 256 = n / 65536 := by omega
  simp [bV, be4, UInt8.toNat_ofNat', h1, h2]

set_option maxRecDepth 100000 in
set_option maxHeartbeats 1000000 in
theorem tlv_Bytes (g : Nat) (F G : Nat → Prop) (bad : Int) (l : List UInt8) (tag : UInt8) (A : Option Addr) (n c : Nat) (b : List UInt8) (w : World)
    (hw : Wr w g F bad l) (hr : Rd w G A n 1 (bV b)) (hs : ∀ k, k < w.heap.size → G k → ¬ F k) (hl : l.length ≤ 1073741824) :
    Calls Tryz.prog 72 #[.pointer (some ⟨g, 0, none⟩), .int .u8 (tag.toNat : Int), .slice A n c] w fun e w' => e = .returned (.pointer (some ⟨g, 0, none⟩)) ∧
      Wr w' g (fun k => F k ∨ w.heap.size ≤ k) (putZ (bad, l) tag b).1 (putZ (bad, l) tag b).2 ∧ Chg F w w' := by
  obtain ⟨i0, hi, hz0, hz1, hz2⟩ := info_parts info_u8
  obtain ⟨v, hb, ho, hFg, hFv⟩ := hw
  obtain ⟨vA, vc, rfl, _, _⟩ := own_form ho
  have hnb : n = b.length := by have := hr.1; simpa using this.symm
  have h0 := hb.cell 0
  have h1 := hb.cell 1
  have hf0 := hb.frozen 0
  simp only [List.getElem?_toArray, List.getElem?_cons_zero, List.getElem?_cons_succ] at h0 h1
  by_cases hbad : bad = 0
  · by_cases hlong : 4194304 < n
    · have hp : putZ (bad, l) tag b = (failZ bad 3, l) := by
        rw [putZ, failZ, if_neg (by simpa using hbad), if_pos (by omega), if_pos hbad]
      have HP := Lib.hid hp
      clear hp hnb
      subst hbad
      go_enter Tryz.func72, Tryz.ntmps72
      go_wp2_with (go_at_call 92; refine (tlv_fail g _ _ _ _ hb).mono ?_; rintro e w' ⟨rfl, hb', hc'⟩)
      go_ret
      refine ⟨rfl, ?_, hc'.mono (by rintro k _ rfl; exact hFg)⟩
      rw [HP.out]
      exact ⟨_, hb', own_chg ho hc' (fun k hk e => own_blk_ne ho hb (by decide) (e ▸ hk)), .inl hFg, fun k hk => .inl (hFv k hk)⟩
    · by_cases htag : tag = 0
      · have hp : putZ (bad, l) tag b = (failZ bad 2, l) := by
          rw [putZ, failZ, if_neg (by simpa using hbad), if_neg (by omega), if_pos htag, if_pos hbad]
        have HP := Lib.hid hp
        clear hp hnb
        subst hbad
        subst htag
        go_enter Tryz.func72, Tryz.ntmps72
        go_wp2_with (go_at_call 92; refine (tlv_fail g _ _ _ _ hb).mono ?_; rintro e w' ⟨rfl, hb', hc'⟩)
        go_ret
        refine ⟨rfl, ?_, hc'.mono (by rintro k _ rfl; exact hFg)⟩
        rw [HP.out]
        exact ⟨_, hb', own_chg ho hc' (fun k hk e => own_blk_ne ho hb (by decide) (e ▸ hk)), .inl hFg, fun k hk => .inl (hFv k hk)⟩
      · have ht : ((tag.toNat : Int) == 0) = false := by
          simp only [beq_eq_false_iff_ne, ne_eq]
          intro h
          exact htag (UInt8.toNat_inj.1 (by simp; omega))
        have hnu : (n : Int) ≤ 4194304 := by omega
        have hp : putZ (bad, l) tag b = (0, l ++ valL tag b) := by
          rw [putZ, if_neg (by simpa using hbad), if_neg (by omega), if_neg htag]
        have HP := Lib.hid hp
        have HN := Lib.hid hnb
        have HT := Lib.hid htag
        clear hp hnb htag hlong
        subst hbad
        go_enter Tryz.func72, Tryz.ntmps72
        go_wp2_with (first
          | (at_builtin
             refine wpList_append_rd _ rfl (.tmp 14) (.tmp 27) _ rfl 0 5 i0 _ 1 1 Tryz.underlying35 hi hz0 hz1 hz2 rfl (by omega) _ l.length (bV l) rfl (ho.alloc _) (· = w.heap.size) _ 5 5 _ rfl (Rd.new w _ _) ?_ (by unfold maxLen; omega) (by omega) (by simp) ?_
             · rw [hdr_cells tag n hnu]; exact bV_one _
             rw [hdr_cells tag n hnu]
             intro v1 w1 hown1 hg1 hat1 _
             obtain ⟨A1, c1, rfl, _, _⟩ := own_form hown1
             have hne : some g ≠ (Value.slice vA l.length vc).ownBlock := fun e => own_blk_ne ho hb (by decide) e.symm
             have hb1 : Blk w1 g 125 #[Value.slice vA l.length vc, Value.int .i64 0] := (hb.alloc _).grown hg1 hne
             have hr1 : Rd w1 G A n 1 (bV b) := (hr.alloc (.cells _ 5)).grown hg1 (fun k _ hG e => hs k ((ho.lt k e.symm).2) hG (hFv k e.symm)))
          | (at_builtin
             refine wpList_append_rd _ rfl (.tmp 28) (.tmp 29) _ rfl 0 5 i0 _ 1 1 Tryz.underlying35 hi hz0 hz1 hz2 rfl (by omega) _ (l.length + 5) (bV l ++ bV (tag :: be4 n)) rfl hown1 G A n c (bV b) rfl hr1 (bV_one _) (by unfold maxLen; omega) (by omega) (by simp) ?_
             intro v2 w2 hown2 hg2 hat2 _
             obtain ⟨A2, c2, rfl, _, _⟩ := own_form hown2
             have hb2 : Blk w2 g 125 #[Value.slice vA l.length vc, Value.int .i64 0] := hb1.grown hg2 (fun e => own_blk_ne hown1 hb1 (by decide) e.symm)
             have h2 := hb2.cell 0
             have hf2 := hb2.frozen 0
             simp only [List.getElem?_toArray, List.getElem?_cons_zero] at h2))
        go_ret
        have hsz1 := hg1.size
        simp only [World.size_alloc] at hsz1
        have hv1 : ∀ k, (Value.slice A1 (l.length + 5) c1).ownBlock = some k → F k ∨ w.heap.size ≤ k := fun k hk => by
          rcases hat1 with e | e
          · exact .inl (hFv k (e ▸ hk))
          · rw [e] at hk; simp at hk; exact .inr (by omega)
        have hv2 : ∀ k, (Value.slice A2 (l.length + 5 + n) c2).ownBlock = some k → F k ∨ w.heap.size ≤ k := fun k hk => by
          rcases hat2 with e | e
          · exact hv1 k (e ▸ hk)
          · rw [e] at hk; simp at hk; exact .inr (by omega)
        have hx : bV l ++ bV (tag :: be4 n) ++ bV b = bV (l ++ valL tag b) := by
          rw [HN.out]; simp [valL, bV]
        have hlen : l.length + 5 + n = (l ++ valL tag b).length := by rw [HN.out]; simp [valL, be4]; omega
        refine ⟨rfl, ?_, ((((Chg.refl F w).alloc _).grown hg1 (fun k e => .inl (hFv k e))).grown hg2 (fun k e => hv1 k e)).setCell (p := ⟨g, 0, none⟩) (.inl hFg) _⟩
        rw [HP.out]
        refine ⟨_, by simpa using hb2.set_ 0 _, ?_, .inl hFg, hv2⟩
        rw [← hx, ← hlen]
        exact own_chg hown2 ((Chg.refl (· = g) w2).setCell (p := ⟨g, 0, none⟩) (.inl rfl) _) (fun k hk e => own_blk_ne hown2 hb2 (by decide) (e ▸ hk))
  · have hb' : (bad != 0) = true := by simpa using hbad
    have hp : putZ (bad, l) tag b = (bad, l) := by rw [putZ, if_pos (by simpa using hbad)]
    have HP := Lib.hid hp
    clear hp hnb
    go_enter Tryz.func72, Tryz.ntmps72
    go_wp2
    go_ret
    refine ⟨rfl, ?_, Chg.refl _ w⟩
    rw [HP.out]
    exact ⟨_, hb, ho, .inl hFg, fun k hk => .inl (hFv k hk)⟩

end Go.Proofs.YtenjdidjjggefaaGreat
