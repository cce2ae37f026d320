import Derived.Test.YtenjdidjjggefaaGreatTlvF
namespace Go.Proofs.YtenjdidjjggefaaGreat
open Go.RowKit Go.Shelf
attribute [local go_sem] Oper.semAt_some wide_fn wide_depth

/-- the values of bytes, each by its tag and how many bytes it has -/
def itemsF : Nat → List UInt8 → List (UInt8 × Nat)
  | 0, _ => []
  | f + 1, l => match firstL l with
    | none => []
    | some (t, N) => (t, N) :: itemsF f (l.drop (5 + N))
def itemsL (l : List UInt8) : List (UInt8 × Nat) := itemsF l.length l

theorem firstL_len {l : List UInt8} {t : UInt8} {N : Nat} (h : firstL l = some (t, N)) : 5 + N ≤ l.length ∧ N ≤ 4194304 := by
  match l, h with
  | t' :: a :: b :: c :: d :: rest, h =>
    simp only [firstL] at h
    split at h
    · cases h
    · split at h
      · cases h
      · obtain ⟨rfl, rfl⟩ := by simpa using h
        simp; omega
theorem itemsF_some {f : Nat} {l : List UInt8} {t : UInt8} {N : Nat} (h : firstL l = some (t, N)) : itemsF (f + 1) l = (t, N) :: itemsF f (l.drop (5 + N)) := by simp [itemsF, h]
theorem itemsF_none {f : Nat} {l : List UInt8} (h : firstL l = none) : itemsF f l = [] := by cases f <;> simp [itemsF, h]
theorem itemsF_fuel : ∀ (f g : Nat) (l : List UInt8), l.length ≤ f → l.length ≤ g → itemsF f l = itemsF g l
  | 0, g, l, h1, _ => by
    have e : l = [] := List.eq_nil_of_length_eq_zero (by omega)
    rw [e, itemsF_none rfl, itemsF_none rfl]
  | f + 1, 0, l, _, h2 => by
    have e : l = [] := List.eq_nil_of_length_eq_zero (by omega)
    rw [e, itemsF_none rfl, itemsF_none rfl]
  | f + 1, g + 1, l, h1, h2 => by
    cases hn : firstL l with
    | none => rw [itemsF_none hn, itemsF_none hn]
    | some x =>
      obtain ⟨t, N⟩ := x
      have := firstL_len hn
      rw [itemsF_some hn, itemsF_some hn, itemsF_fuel f g _ (by simp; omega) (by simp; omega)]
theorem itemsL_some {l : List UInt8} {t : UInt8} {N : Nat} (h : firstL l = some (t, N)) : itemsL l = (t, N) :: itemsL (l.drop (5 + N)) := by
  have hl := firstL_len h
  obtain ⟨f, hf⟩ : ∃ f, l.length = f + 1 := ⟨l.length - 1, by omega⟩
  rw [itemsL, hf, itemsF_some h, itemsL, itemsF_fuel _ _ _ _ (Nat.le_refl _)]
  simp; omega
theorem itemsL_none {l : List UInt8} (h : firstL l = none) : itemsL l = [] := itemsF_none h

def lenOf : Value → Nat | .slice _ n _ => n | _ => 0

/-- what an iterator yields: a tag, and a slice -/
abbrev TagSl := UInt8 × Option Addr × Nat × Nat

theorem abides_below {β : Type} {B : Nat} {J : β → World → Prop} (h : AbidesFrom B J) {s : β} {a b : World} (hs : J s a) (hb : Below a.heap.size a b) : J s b :=
  h s a b none hs ⟨hb.os, hb.tape, hb.output, hb.size, fun k hk _ => hb.block k hk⟩ (fun r e => by cases e)

set_option maxRecDepth 100000 in
set_option maxHeartbeats 2000000 in
theorem all1_in (nn l0 Bs B0 : Nat) (A : Option Addr) (n c : Nat) (l : List UInt8) (G : Nat → Prop) (hnM : n ≤ 1099511627776) (hnc : n ≤ c) (J Jx : List TagSl → World → Prop) (hJ : AbidesFrom B0 J)
    (hY : ∀ pre x W, J pre W → pre.length < (itemsL l).length → YieldAt Fence.wide (nn - 1) Tryz.prog l0 #[.int .u8 (x.1.toNat : Int), .slice x.2.1 x.2.2.1 x.2.2.2] W fun e W' =>
      (e = .returned (.bool true) ∧ J (pre ++ [x]) W' ∧ KeepG G W W') ∨ (e = .returned (.bool false) ∧ Jx (pre ++ [x]) W'))
    (W : World) (hBs : W.cell? ⟨Bs, 0, none⟩ = some (.slice A n c)) (hr : Rd W G A n 1 (bV l)) (h0 : J [] W) :
    CallsIn Fence.wide nn Tryz.prog 130 #[.func (.yield l0) #[] #[], .pointer (some ⟨Bs, 0, none⟩)] W fun e W' => (∃ v, e = .returned v) ∧
      ((∃ ys, ys.map (fun x : TagSl => (x.1, x.2.2.1)) = itemsL l ∧ J ys W') ∨ (∃ pre, pre.map (fun x : TagSl => (x.1, x.2.2.1)) <+: itemsL l ∧ Jx pre W')) := by
  refine callsIn_of_wp Tryz.func130 rfl trivial ?_ rfl
  simp only [Tryz.ntmps130, List.size_toArray, List.length_cons, List.length_nil, Nat.reduceAdd, Nat.reduceSub, Array.replicate_succ, Array.replicate_zero, List.push_toArray, List.append_toArray, List.nil_append, List.cons_append]
  gi_wp2
  gi_loopw [3] (fun v wr => ∃ (pre : List TagSl) (A' : Option Addr) (n' c' : Nat) (l' : List UInt8), v = .slice A' n' c' ∧ Rd wr G A' n' 1 (bV l') ∧ n' ≤ c' ∧ n' ≤ 1099511627776 ∧ Hid (pre.map (fun x : TagSl => (x.1, x.2.2.1)) ++ itemsL l' = itemsL l) ∧ J pre wr)
    (fun v _ => lenOf v)
  case atStart => exact ⟨[], A, n, c, l, rfl, hr, hnc, hnM, rfl, h0⟩
  case round =>
    obtain ⟨pre, A', n', c', l', rfl, hr', hnc', hc', hpre, hJs⟩ := hrel
    cases hn : firstL l' with
    | none =>
      have hp : pre.map (fun x : TagSl => (x.1, x.2.2.1)) = itemsL l := by have := hpre.out; rwa [itemsL_none hn, List.append_nil] at this
      have HP := Lib.hid hp
      have HN := Lib.hid hn
      clear hn hp
      gi_wp2_with (gi_at_call 97; refine (callsIn_wide.2 (tlv_first A' n' c' l' G _ hr' hc' hnc')).mono ?_; rintro e w' ⟨hfs, kq, rfl⟩; rw [HN.out] at hfs; obtain rfl := hfs; dsimp only [noFirst])
      refine bodyPost_ret (results_none rfl _ _ _) rfl ?_
      exact ⟨⟨_, rfl⟩, .inl ⟨pre, HP.out, abides_below hJ hJs (below_drewN (Below.refl _ _) kq)⟩⟩
    | some x =>
      obtain ⟨t, N⟩ := x
      have HN := Lib.hid hn
      have hp : itemsL l = pre.map (fun x : TagSl => (x.1, x.2.2.1)) ++ ((t, N) :: itemsL (l'.drop (5 + N))) := by rw [← itemsL_some hn]; exact hpre.out.symm
      have hlen : pre.length < (itemsL l).length := by rw [hp]; simp
      have HP := Lib.hid hp
      obtain ⟨hl1, hl2⟩ := firstL_len hn
      have hnl : n' = l'.length := by have := hr'.1; simpa using this.symm
      rw [← hnl] at hl1
      have HL := Lib.hid hnl
      clear hn hp hnl
      obtain ⟨b, off, rfl, hGb, hbl, _⟩ := hr'.2 (by omega)
      gi_wp2_with (first
        | (gi_at_call 97
           refine (callsIn_wide.2 (tlv_first _ n' c' l' G _ hr' hc' hnc')).mono ?_
           rintro e w' ⟨hfs, kq, rfl⟩
           rw [HN.out] at hfs
           obtain ⟨A1, rfl, hr1⟩ := hfs)
        | (gi_at_call 74
           refine (callsIn_wide.2 (clone_bytes A1 N N _ G _ (hr1.drewN kq) (by omega))).mono ?_
           rintro e w2 ⟨v2, rfl, ho2, hb2⟩
           obtain ⟨A2, c2, rfl, _, _⟩ := own_form ho2
           obtain ⟨fn, tmps, assign, body, hy, hR⟩ := hY pre (t, A2, N, c2) w2 (abides_below hJ (abides_below hJ hJs (below_drewN (Below.refl _ _) kq)) hb2) hlen
           dsimp only at hy))
      have hr3 := hr'.keep (w' := w2) (Nat.le_trans (below_drewN (Below.refl wr.heap.size _) kq).size hb2.size) (fun p hp _ => ((hb2.cell (p := p) hp)))
      refine hR.mono ?_
      rintro e W3 (⟨rfl, hJ3, hk3⟩ | ⟨rfl, hJx3⟩)
      · have hr4 := (hr3.keep (w' := W3) hk3.1 (fun p _ hg => hk3.cell hg)).cutB (k := 5 + N) (cap := c') (by omega) hnc'
        gi_wp2
        go_roundw
        case rel => exact ⟨pre ++ [(t, A2, N, c2)], _, _, _, l'.drop (5 + N), rfl, hr4, by omega, by omega, by show _ = _; rw [HP.out]; simp, hJ3⟩
        case measure => simp [lenOf]; omega
      · gi_wp2
        refine bodyPost_ret (results_none rfl _ _ _) rfl ?_
        refine ⟨⟨_, rfl⟩, .inr ⟨pre ++ [(t, A2, N, c2)], ⟨itemsL (l'.drop (5 + N)), ?_⟩, hJx3⟩⟩
        rw [HP.out]; simp

end Go.Proofs.YtenjdidjjggefaaGreat
