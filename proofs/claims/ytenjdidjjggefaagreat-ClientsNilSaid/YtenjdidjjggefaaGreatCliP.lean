import Derived.Test.YtenjdidjjggefaaGreatCliB
namespace Go.Proofs.YtenjdidjjggefaaGreat
open Go.RowKit Go.Shelf Go.Sort Go.Maps

/-- what Put says -/
def PutSays (g b : Nat) (F : Nat → Prop) (z : Int × List RowT) (w : World) (e : Ending) (w' : World) : Prop :=
  e = .returned (.int .i64 z.1) ∧ Tbl w' g b (fun k => F k ∨ (w.heap.size ≤ k ∧ k < w'.heap.size)) z.2 ∧ Chg (· = b) w w'

theorem put_kept {g b : Nat} {F : Nat → Prop} {L : List RowT} {w w' : World} (ht : Tbl w g b F L) (hB : Below w.heap.size w w') : Tbl w' g b (fun k => F k ∨ (w.heap.size ≤ k ∧ k < w'.heap.size)) L ∧ Chg (· = b) w w' := by
  have hb := ht.2.2.2.2
  obtain ⟨n, D, ho, _⟩ := hb
  have h1 := ht.1.lt
  have h2 := ho.lt
  exact ⟨(ht.chg (Chg.of_below' hB (fun _ => False)) (fun h => h) (fun h => h) (fun _ _ _ h => h)).more (fun k _ h => .inl h) (fun h => h.elim ht.2.1 (fun h => by omega)) (fun h => h.elim ht.2.2.1 (fun h => by omega)), Chg.of_below' hB _⟩

set_option maxRecDepth 100000 in
set_option maxHeartbeats 1000000 in
theorem put_bad (g b : Nat) (F : Nat → Prop) (L : List RowT) (cl num : Nat) (hcl : cl < 18446744073709551616) (hnum : num < 18446744073709551616) (code : Int) (yes : Bool) (es : List EntryD) (cur : List UInt8) (A B : Option Addr) (n c m k : Nat) (G : Nat → Prop) (w : World)
    (htb : Tbl w g b F L) (hsrt : Srt L) (hE : RE w G A n es) (hC : Rd w G B m 1 (bV cur)) (hn : n ≤ 1048576) (hm : m ≤ 1048576) (hmay : mayResD ⟨code, yes, es, cur⟩ = false) :
    Calls Tryz.prog 12 #[.pointer (some ⟨g, 0, none⟩), .int .u64 (cl : Int), .int .u64 (num : Int), .agg #[.int .i64 code, .bool yes, .slice A n c, .slice B m k]] w (PutSays g b F (putT L cl num ⟨code, yes, es, cur⟩) w) := by
  have hB := (Below.refl w.heap.size w).alloc (Nat.le_refl _) (.cells #[.int .i64 code, .bool yes, .slice A n c, .slice B m k] 37)
  have hE1 := hE.alloc (.cells #[.int .i64 code, .bool yes, .slice A n c, .slice B m k] 37)
  have hC1 := hC.alloc (.cells #[.int .i64 code, .bool yes, .slice A n c, .slice B m k] 37)
  have hbl : b < w.heap.size := by obtain ⟨_, _, ho, _⟩ := htb.2.2.2.2; exact ho.lt
  have hgl := htb.1.lt
  have hL16 : L.length ≤ 16 := by obtain ⟨_, _, _, h, _⟩ := htb.2.2.2.2; exact h
  have hz : putT L cl num ⟨code, yes, es, cur⟩ = (2, L) := by rw [putT, if_pos hmay]
  have HZ := Lib.hid hz
  have HM := Lib.hid hmay
  clear hz hmay
  go_enter Tryz.func12, Tryz.ntmps12
  go_wp2_with (first
    | (go_at_call 26; refine (res_bytes code yes es cur A B n c m k _ _ hE1 hC1 hn hm).mono ?_; rintro e1 w1 ⟨hres, hb1⟩; rw [if_neg (by rw [HM.out]; simp)] at hres; subst hres; have hB1 := hB.trans (hb1.mono (by simp)); have t1 := htb.chg (Chg.of_below' hB1 (fun _ => False)) (fun h => h) (fun h => h) (fun _ _ _ h => h); have kb1 := t1.1)
    | (go_at_call 24; (with_reducible refine (cli_there g b _ kb1).mono ?_); rintro e2 w2 ⟨rfl, hq⟩; have hq2 := hq.symm; clear hq; subst hq2))
  go_ret
  rw [HZ.out]
  exact ⟨rfl, put_kept htb hB1⟩

set_option maxRecDepth 100000 in
set_option maxHeartbeats 1000000 in
theorem put_old (g b : Nat) (F : Nat → Prop) (L : List RowT) (cl num : Nat) (hcl : cl < 18446744073709551616) (hnum : num < 18446744073709551616) (code : Int) (yes : Bool) (es : List EntryD) (cur : List UInt8) (A B : Option Addr) (n c m k : Nat) (G : Nat → Prop) (w : World)
    (htb : Tbl w g b F L) (hsrt : Srt L) (hE : RE w G A n es) (hC : Rd w G B m 1 (bV cur)) (hn : n ≤ 1048576) (hm : m ≤ 1048576) (hmay : mayResD ⟨code, yes, es, cur⟩ = true) (old : Nat) (lo : List UInt8) (hget : getT L cl = some (old, lo)) (hold : num ≤ old) :
    Calls Tryz.prog 12 #[.pointer (some ⟨g, 0, none⟩), .int .u64 (cl : Int), .int .u64 (num : Int), .agg #[.int .i64 code, .bool yes, .slice A n c, .slice B m k]] w (PutSays g b F (putT L cl num ⟨code, yes, es, cur⟩) w) := by
  have hB := (Below.refl w.heap.size w).alloc (Nat.le_refl _) (.cells #[.int .i64 code, .bool yes, .slice A n c, .slice B m k] 37)
  have hE1 := hE.alloc (.cells #[.int .i64 code, .bool yes, .slice A n c, .slice B m k] 37)
  have hC1 := hC.alloc (.cells #[.int .i64 code, .bool yes, .slice A n c, .slice B m k] 37)
  have hbl : b < w.heap.size := by obtain ⟨_, _, ho, _⟩ := htb.2.2.2.2; exact ho.lt
  have hgl := htb.1.lt
  have hL16 : L.length ≤ 16 := by obtain ⟨_, _, _, h, _⟩ := htb.2.2.2.2; exact h
  have hz : putT L cl num ⟨code, yes, es, cur⟩ = (14, L) := by rw [putT, if_neg (by rw [hmay]; simp), hget]; simp only; rw [if_pos hold]
  have HZ := Lib.hid hz
  have HM := Lib.hid hmay
  have HG := Lib.hid hget
  have hd : decide ((num : Int) ≤ (old : Int)) = true := decide_eq_true (by omega)
  clear hz hmay hget
  go_enter Tryz.func12, Tryz.ntmps12
  go_wp2_with (first
    | (go_at_call 26; refine (res_bytes code yes es cur A B n c m k _ _ hE1 hC1 hn hm).mono ?_; rintro e1 w1 ⟨hres, hb1⟩; rw [if_pos HM.out] at hres; obtain ⟨v, rfl, ho⟩ := hres; obtain ⟨vA, vc, rfl, hvc, _⟩ := own_form ho; have hB1 := hB.trans (hb1.mono (by simp)); have t1 := htb.chg (Chg.of_below' hB1 (fun _ => False)) (fun h => h) (fun h => h) (fun _ _ _ h => h); have kb1 := t1.1)
    | (go_at_call 24; (with_reducible refine (cli_there g b _ kb1).mono ?_); rintro e2 w2 ⟨rfl, hq⟩; have hq2 := hq.symm; clear hq; subst hq2)
    | (go_at_call 11; (with_reducible refine (cli_Latest g b F L cl hcl _ t1).mono ?_); rintro e3 w3 ⟨rfl, hb3⟩; rw [HG.out]; dsimp only [Option.map_some, Option.map_none, Option.getD_some, Option.getD_none, Option.isSome_some, Option.isSome_none]; have hB3 := hB1.trans (hb3.mono hB1.size); have t3 := t1.chg (Chg.of_below' hb3 (fun _ => False)) (fun h => h) (fun h => h) (fun _ _ _ h => h); have k3 := t3.1; have g3 := k3.cell 0; simp only [List.getElem?_toArray, List.getElem?_cons_zero] at g3))
  go_ret
  rw [HZ.out]
  exact ⟨rfl, put_kept htb hB3⟩

set_option maxRecDepth 100000 in
set_option maxHeartbeats 1000000 in
theorem put_full (g b : Nat) (F : Nat → Prop) (L : List RowT) (cl num : Nat) (hcl : cl < 18446744073709551616) (hnum : num < 18446744073709551616) (code : Int) (yes : Bool) (es : List EntryD) (cur : List UInt8) (A B : Option Addr) (n c m k : Nat) (G : Nat → Prop) (w : World)
    (htb : Tbl w g b F L) (hsrt : Srt L) (hE : RE w G A n es) (hC : Rd w G B m 1 (bV cur)) (hn : n ≤ 1048576) (hm : m ≤ 1048576) (hmay : mayResD ⟨code, yes, es, cur⟩ = true) (hget : getT L cl = none) (hfull : 16 ≤ L.length) :
    Calls Tryz.prog 12 #[.pointer (some ⟨g, 0, none⟩), .int .u64 (cl : Int), .int .u64 (num : Int), .agg #[.int .i64 code, .bool yes, .slice A n c, .slice B m k]] w (PutSays g b F (putT L cl num ⟨code, yes, es, cur⟩) w) := by
  have hB := (Below.refl w.heap.size w).alloc (Nat.le_refl _) (.cells #[.int .i64 code, .bool yes, .slice A n c, .slice B m k] 37)
  have hE1 := hE.alloc (.cells #[.int .i64 code, .bool yes, .slice A n c, .slice B m k] 37)
  have hC1 := hC.alloc (.cells #[.int .i64 code, .bool yes, .slice A n c, .slice B m k] 37)
  have hbl : b < w.heap.size := by obtain ⟨_, _, ho, _⟩ := htb.2.2.2.2; exact ho.lt
  have hgl := htb.1.lt
  have hL16 : L.length ≤ 16 := by obtain ⟨_, _, _, h, _⟩ := htb.2.2.2.2; exact h
  have hz : putT L cl num ⟨code, yes, es, cur⟩ = (10, L) := by rw [putT, if_neg (by rw [hmay]; simp), hget]; simp only; rw [if_pos hfull]
  have HZ := Lib.hid hz
  have HM := Lib.hid hmay
  have HG := Lib.hid hget
  have hd : decide ((L.length : Int) ≥ 16) = true := decide_eq_true (by omega)
  clear hz hmay hget
  go_enter Tryz.func12, Tryz.ntmps12
  go_wp2_with (first
    | (go_at_call 26; refine (res_bytes code yes es cur A B n c m k _ _ hE1 hC1 hn hm).mono ?_; rintro e1 w1 ⟨hres, hb1⟩; rw [if_pos HM.out] at hres; obtain ⟨v, rfl, ho⟩ := hres; obtain ⟨vA, vc, rfl, hvc, _⟩ := own_form ho; have hB1 := hB.trans (hb1.mono (by simp)); have t1 := htb.chg (Chg.of_below' hB1 (fun _ => False)) (fun h => h) (fun h => h) (fun _ _ _ h => h); have kb1 := t1.1)
    | (go_at_call 24; (with_reducible refine (cli_there g b _ kb1).mono ?_); rintro e2 w2 ⟨rfl, hq⟩; have hq2 := hq.symm; clear hq; subst hq2)
    | (go_at_call 11; (with_reducible refine (cli_Latest g b F L cl hcl _ t1).mono ?_); rintro e3 w3 ⟨rfl, hb3⟩; rw [HG.out]; dsimp only [Option.map_some, Option.map_none, Option.getD_some, Option.getD_none, Option.isSome_some, Option.isSome_none]; have hB3 := hB1.trans (hb3.mono hB1.size); have t3 := t1.chg (Chg.of_below' hb3 (fun _ => False)) (fun h => h) (fun h => h) (fun _ _ _ h => h); have k3 := t3.1; have g3 := k3.cell 0; simp only [List.getElem?_toArray, List.getElem?_cons_zero] at g3; obtain ⟨n4, D4, o4, _, sz4, _⟩ := t3.2.2.2.2; have hle := fun ty => o4.len Tryz.underlying45 ty; rw [sz4] at hle; have o5 := own_tight o4; rw [sz4] at o5))
  go_ret
  rw [HZ.out]
  exact ⟨rfl, put_kept htb hB3⟩

set_option maxRecDepth 100000 in
set_option maxHeartbeats 1000000 in
theorem put_new (g b : Nat) (F : Nat → Prop) (L : List RowT) (cl num : Nat) (hcl : cl < 18446744073709551616) (hnum : num < 18446744073709551616) (code : Int) (yes : Bool) (es : List EntryD) (cur : List UInt8) (A B : Option Addr) (n c m k : Nat) (G : Nat → Prop) (w : World)
    (htb : Tbl w g b F L) (hsrt : Srt L) (hE : RE w G A n es) (hC : Rd w G B m 1 (bV cur)) (hn : n ≤ 1048576) (hm : m ≤ 1048576) (hmay : mayResD ⟨code, yes, es, cur⟩ = true) (hget : getT L cl = none) (hroom : ¬ 16 ≤ L.length) :
    Calls Tryz.prog 12 #[.pointer (some ⟨g, 0, none⟩), .int .u64 (cl : Int), .int .u64 (num : Int), .agg #[.int .i64 code, .bool yes, .slice A n c, .slice B m k]] w (PutSays g b F (putT L cl num ⟨code, yes, es, cur⟩) w) := by
  have hB := (Below.refl w.heap.size w).alloc (Nat.le_refl _) (.cells #[.int .i64 code, .bool yes, .slice A n c, .slice B m k] 37)
  have hE1 := hE.alloc (.cells #[.int .i64 code, .bool yes, .slice A n c, .slice B m k] 37)
  have hC1 := hC.alloc (.cells #[.int .i64 code, .bool yes, .slice A n c, .slice B m k] 37)
  have hbl : b < w.heap.size := by obtain ⟨_, _, ho, _⟩ := htb.2.2.2.2; exact ho.lt
  have hgl := htb.1.lt
  have hL16 : L.length ≤ 16 := by obtain ⟨_, _, _, h, _⟩ := htb.2.2.2.2; exact h
  have hz : putT L cl num ⟨code, yes, es, cur⟩ = (0, insT cl num (resZ ⟨code, yes, es, cur⟩).2 L) := by rw [putT, if_neg (by rw [hmay]; simp), hget]; simp only; rw [if_neg (by omega)]
  have hlen : (resZ ⟨code, yes, es, cur⟩).2.length ≤ 110000000 := by
    obtain ⟨kc, _, _, a1, a2, a3, _⟩ := may_parts hmay
    exact resZ_len _ a3 a1 a2
  have LEN := Lib.hid hlen
  have HZ := Lib.hid hz
  have HM := Lib.hid hmay
  have HG := Lib.hid hget
  have hd : decide ((L.length : Int) ≥ 16) = false := decide_eq_false (by omega)
  clear hz hmay hget hlen
  go_enter Tryz.func12, Tryz.ntmps12
  go_wp2_with (first
    | (go_at_call 26; refine (res_bytes code yes es cur A B n c m k _ _ hE1 hC1 hn hm).mono ?_; rintro e1 w1 ⟨hres, hb1⟩; rw [if_pos HM.out] at hres; obtain ⟨v, rfl, ho⟩ := hres; obtain ⟨vA, vc, rfl, hvc, _⟩ := own_form ho; have hB1 := hB.trans (hb1.mono (by simp)); have t1 := htb.chg (Chg.of_below' hB1 (fun _ => False)) (fun h => h) (fun h => h) (fun _ _ _ h => h); have kb1 := t1.1)
    | (go_at_call 24; (with_reducible refine (cli_there g b _ kb1).mono ?_); rintro e2 w2 ⟨rfl, hq⟩; have hq2 := hq.symm; clear hq; subst hq2)
    | (go_at_call 11; (with_reducible refine (cli_Latest g b F L cl hcl _ t1).mono ?_); rintro e3 w3 ⟨rfl, hb3⟩; rw [HG.out]; dsimp only [Option.map_some, Option.map_none, Option.getD_some, Option.getD_none, Option.isSome_some, Option.isSome_none]; have hB3 := hB1.trans (hb3.mono hB1.size); have t3 := t1.chg (Chg.of_below' hb3 (fun _ => False)) (fun h => h) (fun h => h) (fun _ _ _ h => h); have k3 := t3.1; have g3 := k3.cell 0; simp only [List.getElem?_toArray, List.getElem?_cons_zero] at g3; obtain ⟨n4, D4, o4, _, sz4, _⟩ := t3.2.2.2.2; have hle := fun ty => o4.len Tryz.underlying45 ty; rw [sz4] at hle; have o5 := own_tight o4; rw [sz4] at o5)
    | (at_mapUpdate; refine wpList_mapUpdate_own _ rfl _ _ _ 45 rfl 30 74 keyed Tryz.underlying45 RV b L.length D4 rfl o5 (by have := hL16; unfold maxLen; omega) _ _ (keyL cl) rfl rfl (key_of hcl) (.held (told num vA (resZ ⟨code, yes, es, cur⟩).2.length vc)) [] rfl ?_; intro w5 hown5 hgrow5))
  go_ret
  rw [HZ.out]
  have hB5 : Chg (· = b) w w5 := (Chg.of_below' hB3 (· = b)).grown hgrow5 (fun k hk => .inl (by injection hk with hk; exact hk.symm))
  have hz5 := hgrow5.size
  have hr1 := Rd.of_own (G := fun k => w.heap.size ≤ k ∧ k < w1.heap.size) ho (fun k hk => ⟨Nat.le_trans hB.size (ho.lt k hk).1, (ho.lt k hk).2⟩)
  have hz3 := hb3.size
  have hr5 := ((hr1.below hb3 (fun k hk h => hk)).grown hgrow5 (fun k hk h e => by injection e with e; omega)).more (G' := fun k => F k ∨ (w.heap.size ≤ k ∧ k < w5.heap.size)) (fun k hk h => .inr (by omega))
  have t6 := t3.more (H := fun k => F k ∨ (w.heap.size ≤ k ∧ k < w5.heap.size)) (fun k _ h => .inl h) (fun h => h.elim htb.2.1 (fun h => by omega)) (fun h => h.elim htb.2.2.1 (fun h => by omega))
  exact ⟨rfl, t6.put hsrt hcl hnum (.inr (by omega)) o5 hown5 hgrow5 hr5 hvc (by have := LEN.out; omega), hB5⟩

set_option maxRecDepth 100000 in
set_option maxHeartbeats 1000000 in
theorem put_over (g b : Nat) (F : Nat → Prop) (L : List RowT) (cl num : Nat) (hcl : cl < 18446744073709551616) (hnum : num < 18446744073709551616) (code : Int) (yes : Bool) (es : List EntryD) (cur : List UInt8) (A B : Option Addr) (n c m k : Nat) (G : Nat → Prop) (w : World)
    (htb : Tbl w g b F L) (hsrt : Srt L) (hE : RE w G A n es) (hC : Rd w G B m 1 (bV cur)) (hn : n ≤ 1048576) (hm : m ≤ 1048576) (hmay : mayResD ⟨code, yes, es, cur⟩ = true) (old : Nat) (lo : List UInt8) (hget : getT L cl = some (old, lo)) (hold : ¬ num ≤ old) :
    Calls Tryz.prog 12 #[.pointer (some ⟨g, 0, none⟩), .int .u64 (cl : Int), .int .u64 (num : Int), .agg #[.int .i64 code, .bool yes, .slice A n c, .slice B m k]] w (PutSays g b F (putT L cl num ⟨code, yes, es, cur⟩) w) := by
  have hB := (Below.refl w.heap.size w).alloc (Nat.le_refl _) (.cells #[.int .i64 code, .bool yes, .slice A n c, .slice B m k] 37)
  have hE1 := hE.alloc (.cells #[.int .i64 code, .bool yes, .slice A n c, .slice B m k] 37)
  have hC1 := hC.alloc (.cells #[.int .i64 code, .bool yes, .slice A n c, .slice B m k] 37)
  have hbl : b < w.heap.size := by obtain ⟨_, _, ho, _⟩ := htb.2.2.2.2; exact ho.lt
  have hgl := htb.1.lt
  have hL16 : L.length ≤ 16 := by obtain ⟨_, _, _, h, _⟩ := htb.2.2.2.2; exact h
  have hz : putT L cl num ⟨code, yes, es, cur⟩ = (0, insT cl num (resZ ⟨code, yes, es, cur⟩).2 L) := by rw [putT, if_neg (by rw [hmay]; simp), hget]; simp only; rw [if_neg (by omega)]
  have hlen : (resZ ⟨code, yes, es, cur⟩).2.length ≤ 110000000 := by
    obtain ⟨kc, _, _, a1, a2, a3, _⟩ := may_parts hmay
    exact resZ_len _ a3 a1 a2
  have LEN := Lib.hid hlen
  have HZ := Lib.hid hz
  have HM := Lib.hid hmay
  have HG := Lib.hid hget
  have hd : decide ((num : Int) ≤ (old : Int)) = false := decide_eq_false (by omega)
  clear hz hmay hget hlen
  go_enter Tryz.func12, Tryz.ntmps12
  go_wp2_with (first
    | (go_at_call 26; refine (res_bytes code yes es cur A B n c m k _ _ hE1 hC1 hn hm).mono ?_; rintro e1 w1 ⟨hres, hb1⟩; rw [if_pos HM.out] at hres; obtain ⟨v, rfl, ho⟩ := hres; obtain ⟨vA, vc, rfl, hvc, _⟩ := own_form ho; have hB1 := hB.trans (hb1.mono (by simp)); have t1 := htb.chg (Chg.of_below' hB1 (fun _ => False)) (fun h => h) (fun h => h) (fun _ _ _ h => h); have kb1 := t1.1)
    | (go_at_call 24; (with_reducible refine (cli_there g b _ kb1).mono ?_); rintro e2 w2 ⟨rfl, hq⟩; have hq2 := hq.symm; clear hq; subst hq2)
    | (go_at_call 11; (with_reducible refine (cli_Latest g b F L cl hcl _ t1).mono ?_); rintro e3 w3 ⟨rfl, hb3⟩; rw [HG.out]; dsimp only [Option.map_some, Option.map_none, Option.getD_some, Option.getD_none, Option.isSome_some, Option.isSome_none]; have hB3 := hB1.trans (hb3.mono hB1.size); have t3 := t1.chg (Chg.of_below' hb3 (fun _ => False)) (fun h => h) (fun h => h) (fun _ _ _ h => h); have k3 := t3.1; have g3 := k3.cell 0; simp only [List.getElem?_toArray, List.getElem?_cons_zero] at g3; obtain ⟨n4, D4, o4, _, sz4, _⟩ := t3.2.2.2.2; have hle := fun ty => o4.len Tryz.underlying45 ty; rw [sz4] at hle; have o5 := own_tight o4; rw [sz4] at o5)
    | (at_mapUpdate; refine wpList_mapUpdate_own _ rfl _ _ _ 45 rfl 30 74 keyed Tryz.underlying45 RV b L.length D4 rfl o5 (by have := hL16; unfold maxLen; omega) _ _ (keyL cl) rfl rfl (key_of hcl) (.held (told num vA (resZ ⟨code, yes, es, cur⟩).2.length vc)) [] rfl ?_; intro w5 hown5 hgrow5))
  go_ret
  rw [HZ.out]
  have hB5 : Chg (· = b) w w5 := (Chg.of_below' hB3 (· = b)).grown hgrow5 (fun k hk => .inl (by injection hk with hk; exact hk.symm))
  have hz5 := hgrow5.size
  have hr1 := Rd.of_own (G := fun k => w.heap.size ≤ k ∧ k < w1.heap.size) ho (fun k hk => ⟨Nat.le_trans hB.size (ho.lt k hk).1, (ho.lt k hk).2⟩)
  have hz3 := hb3.size
  have hr5 := ((hr1.below hb3 (fun k hk h => hk)).grown hgrow5 (fun k hk h e => by injection e with e; omega)).more (G' := fun k => F k ∨ (w.heap.size ≤ k ∧ k < w5.heap.size)) (fun k hk h => .inr (by omega))
  have t6 := t3.more (H := fun k => F k ∨ (w.heap.size ≤ k ∧ k < w5.heap.size)) (fun k _ h => .inl h) (fun h => h.elim htb.2.1 (fun h => by omega)) (fun h => h.elim htb.2.2.1 (fun h => by omega))
  exact ⟨rfl, t6.put hsrt hcl hnum (.inl (by rw [HG.out]; rfl)) o5 hown5 hgrow5 hr5 hvc (by have := LEN.out; omega), hB5⟩

theorem cli_Put (g b : Nat) (F : Nat → Prop) (L : List RowT) (cl num : Nat) (hcl : cl < 18446744073709551616) (hnum : num < 18446744073709551616) (code : Int) (yes : Bool) (es : List EntryD) (cur : List UInt8) (A B : Option Addr) (n c m k : Nat) (G : Nat → Prop) (w : World)
    (htb : Tbl w g b F L) (hsrt : Srt L) (hE : RE w G A n es) (hC : Rd w G B m 1 (bV cur)) (hn : n ≤ 1048576) (hm : m ≤ 1048576) :
    Calls Tryz.prog 12 #[.pointer (some ⟨g, 0, none⟩), .int .u64 (cl : Int), .int .u64 (num : Int), .agg #[.int .i64 code, .bool yes, .slice A n c, .slice B m k]] w (PutSays g b F (putT L cl num ⟨code, yes, es, cur⟩) w) := by
  cases hmay : mayResD ⟨code, yes, es, cur⟩
  · exact put_bad g b F L cl num hcl hnum code yes es cur A B n c m k G w htb hsrt hE hC hn hm hmay
  · cases hget : getT L cl with
    | none =>
      by_cases hf : 16 ≤ L.length
      · exact put_full g b F L cl num hcl hnum code yes es cur A B n c m k G w htb hsrt hE hC hn hm hmay hget hf
      · exact put_new g b F L cl num hcl hnum code yes es cur A B n c m k G w htb hsrt hE hC hn hm hmay hget hf
    | some x =>
      obtain ⟨old, lo⟩ := x
      by_cases ho : num ≤ old
      · exact put_old g b F L cl num hcl hnum code yes es cur A B n c m k G w htb hsrt hE hC hn hm hmay old lo hget ho
      · exact put_over g b F L cl num hcl hnum code yes es cur A B n c m k G w htb hsrt hE hC hn hm hmay old lo hget ho

end Go.Proofs.YtenjdidjjggefaaGreat
