import Derived.Test.YtenjdidjjggefaaGreatMem
import Derived.Test.YtenjdidjjggefaaGreatUtf
namespace Go.Proofs.YtenjdidjjggefaaGreat
open Go.RowKit Go.Shelf
attribute [local go_sem] Oper.semAt_some wide_fn wide_depth

/-- the runes of bytes, from a place on, each with its place -/
def runesF : Nat → Nat → List UInt8 → List (Nat × Int)
  | 0, _, _ => []
  | f + 1, at_, l => match nextL l with
    | none => []
    | some (r, n) => (at_, r) :: runesF f (at_ + n) (l.drop n)

def runesL (l : List UInt8) : List (Nat × Int) := runesF l.length 0 l

theorem nextL_pos {l : List UInt8} {r : Int} {n : Nat} (h : nextL l = some (r, n)) : 1 ≤ n ∧ n ≤ l.length := by
  cases l with
  | nil => cases h
  | cons c t =>
    simp only [nextL] at h
    split at h
    · cases h
    · split at h
      · cases h
      · split at h
        · rename_i r' hc _
          obtain ⟨rfl, rfl⟩ := by simpa using h
          refine ⟨by omega, ?_⟩
          apply Decidable.byContradiction
          intro hn
          rw [contL_short _ _ _ (by simp at hn; omega)] at hc
          cases hc
        · cases h

theorem runesF_some {f k : Nat} {l : List UInt8} {r : Int} {m : Nat} (h : nextL l = some (r, m)) : runesF (f + 1) k l = (k, r) :: runesF f (k + m) (l.drop m) := by simp [runesF, h]
theorem runesF_none {f k : Nat} {l : List UInt8} (h : nextL l = none) : runesF f k l = [] := by cases f <;> simp [runesF, h]
theorem runesF_nil (f k : Nat) : runesF f k [] = [] := runesF_none rfl
/-- more fuel than bytes changes nothing -/
theorem runesF_fuel : ∀ (f g k : Nat) (l : List UInt8), l.length ≤ f → l.length ≤ g → runesF f k l = runesF g k l
  | 0, g, k, l, h1, _ => by
    have e : l = [] := List.eq_nil_of_length_eq_zero (by omega)
    rw [e, runesF_nil, runesF_nil]
  | f + 1, 0, k, l, _, h2 => by
    have e : l = [] := List.eq_nil_of_length_eq_zero (by omega)
    rw [e, runesF_nil, runesF_nil]
  | f + 1, g + 1, k, l, h1, h2 => by
    cases hn : nextL l with
    | none => rw [runesF_none hn, runesF_none hn]
    | some x =>
      obtain ⟨r, m⟩ := x
      have := nextL_pos hn
      rw [runesF_some hn, runesF_some hn, runesF_fuel f g _ _ (by simp; omega) (by simp; omega)]

set_option maxRecDepth 100000 in
set_option maxHeartbeats 400000 in
theorem runes1_in (n l Bs : Nat) (s : ByteArray) (hs : s.size ≤ 1048576) (J Jx : List (Nat × Int) → World → Prop)
    (hY : ∀ pre x W, J pre W → pre.length < (runesL s.data.toList).length → YieldAt Fence.wide (n - 1) Tryz.prog l #[.int .i64 (x.1 : Int), .int .i32 x.2] W fun e W' =>
      (e = .returned (.bool true) ∧ J (pre ++ [x]) W' ∧ KeepG (· = Bs) W W') ∨ (e = .returned (.bool false) ∧ Jx (pre ++ [x]) W'))
    (W : World) (hBs : W.cell? ⟨Bs, 0, none⟩ = some (.string s)) (h0 : J [] W) :
    CallsIn Fence.wide n Tryz.prog 138 #[.func (.yield l) #[] #[], .pointer (some ⟨Bs, 0, none⟩)] W fun e W' => (∃ v, e = .returned v) ∧
      ((∃ ys, ys = runesL s.data.toList ∧ J ys W') ∨ (∃ pre, pre <+: runesL s.data.toList ∧ Jx pre W')) := by
  refine callsIn_of_wp Tryz.func138 rfl trivial ?_ rfl
  simp only [Tryz.ntmps138, List.size_toArray, List.length_cons, List.length_nil, Nat.reduceAdd, Nat.reduceSub, Array.replicate_succ, Array.replicate_zero, List.push_toArray, List.append_toArray, List.nil_append, List.cons_append]
  gi_wp2
  gi_loopw [3] (fun i wr => ∃ (k : Nat) (pre : List (Nat × Int)) (f : Nat), i = .int .i64 k ∧ k + f = s.size ∧ pre ++ runesF f k (s.data.toList.drop k) = runesL s.data.toList ∧ J pre wr ∧ KeepG (· = Bs) W wr)
    (fun i _ => s.size - (intOf i).toNat)
  case atStart => exact ⟨0, [], s.size, rfl, by omega, by rw [runesL, Lib.size_eq]; rfl, h0, KeepG.refl _ _⟩
  case round =>
    obtain ⟨k, pre, f, rfl, hkf, hpre, hJs, hnx⟩ := hrel
    have hBx : wr.cell? ⟨Bs, 0, none⟩ = some (.string s) := (hnx.cell (p := ⟨Bs, 0, none⟩) rfl).trans hBs
    have HP := Lib.hid hpre
    clear hpre
    have hsz : (s.extract k s.size).data.toList = s.data.toList.drop k := Lib.extract_to_end s k
    have hxs : (s.extract k s.size).size ≤ 1048576 := by rw [Lib.size_eq, hsz, List.length_drop, ← Lib.size_eq]; omega
    by_cases hlt : k < s.size
    · obtain ⟨f, rfl⟩ : ∃ g, f = g + 1 := ⟨f - 1, by omega⟩
      cases hn : nextL (s.data.toList.drop k) with
      | none =>
        have hpre' : pre = runesL s.data.toList := by have := HP.out; rwa [runesF_none hn, List.append_nil] at this
        have HN := Lib.hid hn
        have HS := Lib.hid hsz
        clear hn hsz
        gi_wp2_with (gi_at_call 139; refine (callsIn_wide.2 (utf_Next _ hxs _)).mono ?_; rintro e w' ⟨rfl, rfl⟩; rw [HS.out, HN.out]; dsimp only [nextV])
        refine bodyPost_ret (results_none rfl _ _ _) rfl ?_
        exact ⟨⟨_, rfl⟩, .inl ⟨pre, hpre', hJs⟩⟩
      | some x =>
        obtain ⟨r, m⟩ := x
        obtain ⟨hm1, hm2⟩ := nextL_pos hn
        rw [List.length_drop, ← Lib.size_eq] at hm2
        have hpre2 : (pre ++ [(k, r)]) ++ runesF f (k + m) (s.data.toList.drop (k + m)) = runesL s.data.toList := by
          have := HP.out
          rw [runesF_some hn, List.drop_drop] at this
          rw [List.append_assoc]; exact this
        have hlen : pre.length < (runesL s.data.toList).length := by rw [← hpre2]; simp
        have hf3 : runesF f (k + m) (s.data.toList.drop (k + m)) = runesF (f + 1 - m) (k + m) (s.data.toList.drop (k + m)) :=
          runesF_fuel _ _ _ _ (by rw [List.length_drop, ← Lib.size_eq]; omega) (by rw [List.length_drop, ← Lib.size_eq]; omega)
        have HP2 := Lib.hid hpre2
        have HF := Lib.hid hf3
        have HN := Lib.hid hn
        have HS := Lib.hid hsz
        clear hn hsz hpre2 hf3
        obtain ⟨fn, tmps, assign, body, hy, hR⟩ := hY pre (k, r) wr hJs hlen
        dsimp only at hy
        gi_wp2_with (gi_at_call 139; refine (callsIn_wide.2 (utf_Next _ hxs _)).mono ?_; rintro e w' ⟨rfl, rfl⟩; rw [HS.out, HN.out]; dsimp only [nextV])
        refine hR.mono ?_
        rintro e W3 (⟨rfl, hJ3, hk3⟩ | ⟨rfl, hJx3⟩)
        · gi_wp2
          go_roundw
          case rel => exact ⟨k + m, pre ++ [(k, r)], f + 1 - m, by go_num, by omega, by rw [← HF.out]; exact HP2.out, hJ3, hnx.trans hk3⟩
          case measure => simp [intOf]; omega
        · gi_wp2
          refine bodyPost_ret (results_none rfl _ _ _) rfl ?_
          exact ⟨⟨_, rfl⟩, .inr ⟨pre ++ [(k, r)], ⟨_, HP2.out⟩, hJx3⟩⟩
    · obtain rfl : f = 0 := by omega
      gi_wp2
      go_end0
      exact ⟨⟨_, rfl⟩, .inl ⟨pre, by have := HP.out; rwa [runesF, List.append_nil] at this, hJs⟩⟩

theorem utf_Runes (n : Nat) (s : ByteArray) (w : World) :
    CallsIn Fence.wide n Tryz.prog 134 #[.string s] w fun e w' => e = .returned (.func (.func 138) #[] #[.pointer (some ⟨w.heap.size, 0, none⟩)]) ∧ w.alloc (.cells #[.string s] 9) = w' := by
  refine callsIn_of_wp Tryz.func134 rfl trivial ?_ rfl
  simp only [Tryz.ntmps134, List.size_toArray, List.length_cons, List.length_nil, Nat.reduceAdd, Nat.reduceSub, Array.replicate_succ, Array.replicate_zero, List.push_toArray, List.append_toArray, List.nil_append, List.cons_append]
  gi_wp2
  go_ret
  exact ⟨rfl, rfl⟩

theorem runes_stops (n Bs : Nat) (s : ByteArray) (hs : s.size ≤ 1048576) (w : World) (hBs : Bs < w.heap.size)
    (hc : w.cell? ⟨Bs, 0, none⟩ = some (.string s)) :
    SeqStopsK Fence.wide n Tryz.prog 138 #[.pointer (some ⟨Bs, 0, none⟩)] (fun x : Nat × Int => #[Value.int .i64 (x.1 : Int), .int .i32 x.2]) (KeepG (· = Bs)) (fun ys => ys = runesL s.data.toList) (fun pre => pre <+: runesL s.data.toList) (runesL s.data.toList).length w := fun l J Jx W hW _ _ hY h0 => by
  have hc' := (hW.cell (p := ⟨Bs, 0, none⟩) hBs).trans hc
  exact runes1_in n l Bs s hs J Jx hY W hc' h0

end Go.Proofs.YtenjdidjjggefaaGreat
