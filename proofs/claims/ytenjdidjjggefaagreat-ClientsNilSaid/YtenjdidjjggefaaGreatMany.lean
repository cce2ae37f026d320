import Derived.Test.YtenjdidjjggefaaGreatTlvM
import Derived.BigRegionIn
namespace Go.Proofs.YtenjdidjjggefaaGreat
open Go.RowKit Go.Shelf
attribute [local go_sem] Oper.semAt_some wide_fn wide_depth

theorem tlv_All (nn : Nat) (A : Option Addr) (n c : Nat) (w : World) :
    CallsIn Fence.wide nn Tryz.prog 116 #[.slice A n c] w fun e w' => e = .returned (.func (.func 130) #[] #[.pointer (some ⟨w.heap.size, 0, none⟩)]) ∧ w.alloc (.cells #[.slice A n c] 35) = w' := by
  refine callsIn_of_wp Tryz.func116 rfl trivial ?_ rfl
  simp only [Tryz.ntmps116, List.size_toArray, List.length_cons, List.length_nil, Nat.reduceAdd, Nat.reduceSub, Array.replicate_succ, Array.replicate_zero, List.push_toArray, List.append_toArray, List.nil_append, List.cons_append]
  gi_wp2
  go_ret
  exact ⟨rfl, rfl⟩

theorem all_stops (nn Bs : Nat) (A : Option Addr) (n c : Nat) (l : List UInt8) (G : Nat → Prop) (hnM : n ≤ 1099511627776) (hnc : n ≤ c) (w : World) (hBs : Bs < w.heap.size)
    (hcell : w.cell? ⟨Bs, 0, none⟩ = some (.slice A n c)) (hr : Rd w G A n 1 (bV l)) :
    SeqStopsK Fence.wide nn Tryz.prog 130 #[.pointer (some ⟨Bs, 0, none⟩)] (fun x : TagSl => #[Value.int .u8 (x.1.toNat : Int), .slice x.2.1 x.2.2.1 x.2.2.2]) (KeepG G)
      (fun ys => ys.map (fun x : TagSl => (x.1, x.2.2.1)) = itemsL l) (fun pre => pre.map (fun x : TagSl => (x.1, x.2.2.1)) <+: itemsL l) (itemsL l).length w := fun l0 J Jx W hW hJ _ hY h0 => by
  have hc' := (hW.cell (p := ⟨Bs, 0, none⟩) hBs).trans hcell
  exact all1_in nn l0 Bs W.heap.size A n c l G hnM hnc J Jx hJ hY W hc' (hr.below hW (fun k hk _ => hk)) h0

theorem wpOp_inRound {l n : Nat} {P : Program} {ops : Array Oper} {Q : Exit → Act → World → Prop} {i : Nat} {K : Act → World → Prop} {a : Act} {w : World}
    (hd : ∀ o ∈ ops, ∀ c, o.op ≠ .defer c) (h : wpOpIn Fence.wide n P ops Q i K a w) : wpOpIn (Fence.wide.inRound l) n P ops Q i K a w := by
  unfold wpOpIn at *
  cases ho : ops[i]? with
  | none => rw [ho] at h; exact h
  | some o =>
    rw [ho] at h
    dsimp only at h ⊢
    split
    · rename_i hw
      rw [if_pos hw] at h
      obtain ⟨_, h⟩ := h
      refine ⟨fun _ _ => trivial, ?_⟩
      rw [show (Fence.wide.inRound l).round = some l from rfl, Oper.semAt_some l _ o (hd o (Array.mem_of_getElem? ho))]
      rw [show Fence.wide.round = none from rfl, Oper.semAt_none] at h
      generalize (execOp a.eval o).run P w = r at *
      cases r with
      | ok x w' =>
        cases x <;> simp only [Oper.uponIn] at h ⊢
        case value u => exact h
        case skip => exact h
        case defer d => exact h
        case enter f args => exact ⟨fun h => (by cases h), h.2⟩
        case row row args => exact ⟨fun h => (by cases h), h.2⟩
        case round l f tmps assign body => exact ⟨fun h => (by cases h), h.2⟩
      | halt x w' =>
        cases x <;> simp only [Oper.uponIn] at h ⊢
        case panic u => exact h
    · rename_i hw
      rw [if_neg hw] at h
      exact ⟨fun _ _ => trivial, h.2⟩

theorem wpAny_inRound {l n : Nat} {P : Program} {md : Region.Mode} {ops : Array Oper} {Q : Exit → Act → World → Prop} (hd : ∀ o ∈ ops, ∀ c, o.op ≠ .defer c) :
    ∀ (fuel : Nat) (listed : Array Bool) (a : Act) (w : World), wpAnyIn Fence.wide n P md ops Q fuel listed a w → wpAnyIn (Fence.wide.inRound l) n P md ops Q fuel listed a w := by
  intro fuel
  induction fuel with
  | zero => intro listed a w h; exact h
  | succ fuel ih =>
    intro listed a w h
    exact ⟨h.1, fun i hi => wpOp_inRound hd (wpOpIn_mono (fun a' w' h' => ih _ _ _ h') (h.2 i hi))⟩

def noDefer (ops : Array Oper) : Bool := ops.all fun o => match o.op with | .defer _ => false | _ => true
theorem noDefer_spec {ops : Array Oper} (h : noDefer ops = true) : ∀ o ∈ ops, ∀ c, o.op ≠ .defer c := by
  intro o ho c e
  have := Array.all_eq_true'.1 h o ho
  rw [e] at this
  cases this

theorem region_inRound {l n id : Nat} {P : Program} {ops : Array Oper} {Q : Exit → Act → World → Prop} {a : Act} {w : World} (hm : P.follows .mixedOrders = true) (hd : noDefer ops = true)
    (h : wpAnyIn Fence.wide n P .any ops Q ops.size (Array.replicate ops.size false) a w.drew) : (Code.region id ops true).wpIn (Fence.wide.inRound l) n P Q a w :=
  wpIn_region_any hm (wpAny_inRound (noDefer_spec hd) _ _ _ _ h)

def cntZ (pre : List TagSl) : Int := pre.foldl (fun s _ => IntKind.i64.wrap (s + 1)) 0
def sumZ (pre : List TagSl) : Int := pre.foldl (fun s x => IntKind.i64.wrap (IntKind.i64.wrap (s + 5) + (x.2.2.1 : Int))) 0
theorem cntZ_snoc (pre : List TagSl) (x : TagSl) : cntZ (pre ++ [x]) = IntKind.i64.wrap (cntZ pre + 1) := by simp [cntZ]
theorem sumZ_snoc (pre : List TagSl) (x : TagSl) : sumZ (pre ++ [x]) = IntKind.i64.wrap (IntKind.i64.wrap (sumZ pre + 5) + (x.2.2.1 : Int)) := by simp [sumZ]

theorem many_leaf {w W : World} {G : Nat → Prop} {pre : List TagSl} (hb : Boxed W w.heap.size 3 (.int .i64 (cntZ pre))) (hb' : Boxed W (w.heap.size + 1) 3 (.int .i64 (sumZ pre))) (hB : Below w.heap.size w W) (x : TagSl) :
    KeepsOthers W ((W.setCell ⟨w.heap.size, 0, none⟩ (.int .i64 (IntKind.i64.wrap (cntZ pre + 1)))).setCell ⟨w.heap.size + 1, 0, none⟩ (.int .i64 (IntKind.i64.wrap (IntKind.i64.wrap (sumZ pre + 5) + (x.2.2.1 : Int))))).drew ∧
    KeepG (fun k => G k ∧ k < w.heap.size) W ((W.setCell ⟨w.heap.size, 0, none⟩ (.int .i64 (IntKind.i64.wrap (cntZ pre + 1)))).setCell ⟨w.heap.size + 1, 0, none⟩ (.int .i64 (IntKind.i64.wrap (IntKind.i64.wrap (sumZ pre + 5) + (x.2.2.1 : Int))))).drew ∧
    (Boxed ((W.setCell ⟨w.heap.size, 0, none⟩ (.int .i64 (IntKind.i64.wrap (cntZ pre + 1)))).setCell ⟨w.heap.size + 1, 0, none⟩ (.int .i64 (IntKind.i64.wrap (IntKind.i64.wrap (sumZ pre + 5) + (x.2.2.1 : Int))))).drew w.heap.size 3 (.int .i64 (cntZ (pre ++ [x]))) ∧
     Boxed ((W.setCell ⟨w.heap.size, 0, none⟩ (.int .i64 (IntKind.i64.wrap (cntZ pre + 1)))).setCell ⟨w.heap.size + 1, 0, none⟩ (.int .i64 (IntKind.i64.wrap (IntKind.i64.wrap (sumZ pre + 5) + (x.2.2.1 : Int))))).drew (w.heap.size + 1) 3 (.int .i64 (sumZ (pre ++ [x])))) ∧
    Below w.heap.size w ((W.setCell ⟨w.heap.size, 0, none⟩ (.int .i64 (IntKind.i64.wrap (cntZ pre + 1)))).setCell ⟨w.heap.size + 1, 0, none⟩ (.int .i64 (IntKind.i64.wrap (IntKind.i64.wrap (sumZ pre + 5) + (x.2.2.1 : Int))))).drew := by
  rw [cntZ_snoc, sumZ_snoc]
  refine ⟨((KeepsOthers.setCell _ _ _).trans (KeepsOthers.setCell _ _ _)).trans (KeepsOthers.drew _), ?_, ⟨?_, ?_⟩, ?_⟩
  · exact ((KeepG.refl _ W).setCell (p := ⟨w.heap.size, 0, none⟩) (by simp) _).setCell (p := ⟨w.heap.size + 1, 0, none⟩) (by simp) _
  · exact (hb.set _).other (by omega) _
  · exact (hb'.other (by omega) _).set _
  · exact ((hB.setCell (p := ⟨w.heap.size, 0, none⟩) (Nat.le_refl _) _).setCell (p := ⟨w.heap.size + 1, 0, none⟩) (by simp) _).drew

set_option maxRecDepth 100000 in
set_option maxHeartbeats 2000000 in
theorem many_in (A : Option Addr) (n c : Nat) (l : List UInt8) (G : Nat → Prop) (hnM : n ≤ 1099511627776) (hnc : n ≤ c) (w : World) (hr : Rd w G A n 1 (bV l)) :
    CallsIn Fence.wide 5 Tryz.prog 93 #[.slice A n c] w fun e w' => (∃ ys : List TagSl, ys.map (fun x : TagSl => (x.1, x.2.2.1)) = itemsL l ∧ e = .returned (.int .i64 (if sumZ ys = (n : Int) then cntZ ys else -1))) ∧ Below w.heap.size w w' := by
  have hr := hr.lt
  refine callsIn_of_wp_marks Tryz.func93 rfl trivial ?_ rfl
  simp only [Tryz.ntmps93, List.size_toArray, List.length_cons, List.length_nil, Nat.reduceAdd, Nat.reduceSub, Array.replicate_succ, Array.replicate_zero, List.push_toArray, List.append_toArray, List.nil_append, List.cons_append]
  gi_wp2_with (gi_at_call 116; refine (tlv_All _ _ _ _ _).mono ?_; rintro e w' ⟨rfl, rfl⟩)
  have b0 : Boxed (((w.alloc (.cells #[.int .i64 0] 3)).alloc (.cells #[.int .i64 0] 3)).alloc (.cells #[.slice A n c] 35)) w.heap.size 3 (.int .i64 0) := ((Boxed.new _ _ _).alloc _).alloc _
  have b1 : Boxed (((w.alloc (.cells #[.int .i64 0] 3)).alloc (.cells #[.int .i64 0] 3)).alloc (.cells #[.slice A n c] 35)) (w.heap.size + 1) 3 (.int .i64 0) := by
    have h := (Boxed.new (w.alloc (.cells #[.int .i64 0] 3)) 3 (.int .i64 0)).alloc (.cells #[.slice A n c] 35)
    rwa [World.size_alloc] at h
  have b2 := Boxed.new ((w.alloc (.cells #[.int .i64 0] 3)).alloc (.cells #[.int .i64 0] 3)) 35 (.slice A n c)
  simp only [World.size_alloc] at b2
  have hB0 : Below w.heap.size w (((w.alloc (.cells #[.int .i64 0] 3)).alloc (.cells #[.int .i64 0] 3)).alloc (.cells #[.slice A n c] 35)) := (((Below.refl _ w).alloc (Nat.le_refl _) _).alloc (by simp) _).alloc (by simp; omega) _
  have hr2 := ((hr.alloc (.cells #[.int .i64 0] 3)).alloc (.cells #[.int .i64 0] 3)).alloc (.cells #[.slice A n c] 35)
  refine wpIn_rangeFunc_ownF rfl (by omega) (gf := 130) (lb := #[.pointer (some ⟨w.heap.size + 1 + 1, 0, none⟩)]) rfl trivial (enters_of Tryz.func130 (by kernel_rfl) rfl)
    (all_stops _ (w.heap.size + 1 + 1) A n c l _ hnM hnc _ (by simp) b2.cell hr2) KeepG.trans (KeepG.put (by simp; omega)) (Below.refl _ _) (fun _ => rfl)
    (fun pre W => (Boxed W w.heap.size 3 (.int .i64 (cntZ pre)) ∧ Boxed W (w.heap.size + 1) 3 (.int .i64 (sumZ pre))) ∧ Below w.heap.size w W)
    (fun _ _ _ => False)
    (OwnFrom.and (OwnFrom.and (Own.from (boxed_own _ _ _) _) (Own.from (boxed_own _ _ _) _)) (ownFrom_below (Nat.le_refl _) (by simp; omega)))
    (fun _ _ _ _ _ hs _ _ => hs)
    ⟨⟨b0, b1⟩, hB0⟩
    (fun x => { tmps := #[.slice A n c, undef, .int .i64 0, .pointer (some ⟨w.heap.size, 0, none⟩), .pointer (some ⟨w.heap.size + 1, 0, none⟩), undef, .slice x.2.1 x.2.2.1 x.2.2.2, .slice A n c, .func (.func 130) #[] #[.pointer (some ⟨w.heap.size + 1 + 1, 0, none⟩)], .int .u8 (x.1.toNat : Int), .slice x.2.1 x.2.2.1 x.2.2.2, undef, undef, undef, undef, undef, undef, undef, undef, undef, undef, undef, undef], defers := [] }) ?assign ?body ?done ?stop
  case assign =>
    intro l x W K hK
    gi_wp2
    exact hK
  case body =>
    rintro l pre x W ⟨⟨hb, hb'⟩, hB⟩ _
    have hc1 := hb.cell
    have hf1 := hb.frozen
    have hc2 := hb'.cell
    have hf2 := hb'.frozen
    gi_wp2
    have hmx : Tryz.prog.follows .mixedOrders = true := by kernel_rfl
    refine region_inRound hmx (by kernel_rfl) ?_
    refine wpAnyIn_take (i := 4) (v := ?v1) rfl rfl (by kernel_rfl) (by kernel_rfl) (by kernel_rfl) (fun _ _ _ h => h) ⟨Or.inl ⟨by rfl, ?y1⟩, fun _ => rfl⟩ ?r1
    case y1 => (intro w; go_simp; try with_reducible rfl)
    case r1 =>
      refine wpAnyIn_take (i := 5) (v := ?v2) rfl rfl (by kernel_rfl) (by kernel_rfl) (by kernel_rfl) (fun _ _ _ h => h) ⟨Or.inl ⟨by rfl, ?y2⟩, fun _ => rfl⟩ ?r2
      case y2 => (intro w; go_simp; try with_reducible rfl)
      case r2 =>
        refine wpAnyIn_ready (rs := [0, 2]) (by kernel_rfl) (by simp) (AllReadyIn.cons rfl (fun K hK => ?_) (AllReadyIn.cons rfl (fun K hK => ?_) AllReadyIn.nil))
        · go_simp
          refine hK _ _ ?_
          clear hK K
          refine wpAnyIn_take (i := 1) (v := ?v3) rfl rfl (by kernel_rfl) (by kernel_rfl) (by kernel_rfl) (fun _ _ _ h => h) ⟨Or.inl ⟨by rfl, ?y3⟩, fun _ => rfl⟩ ?r3
          case y3 => (intro w; go_simp; try with_reducible rfl)
          case r3 =>
            refine wpAnyIn_ready (rs := [2, 7]) (by kernel_rfl) (by simp) (AllReadyIn.cons rfl (fun K hK => ?_) (AllReadyIn.cons rfl (fun K hK => ?_) AllReadyIn.nil))
            · go_simp
              refine hK _ _ ?_
              clear hK K
              refine wpAnyIn_take (i := 3) (v := ?v4) rfl rfl (by kernel_rfl) (by kernel_rfl) (by kernel_rfl) (fun _ _ _ h => h) ⟨Or.inl ⟨by rfl, ?y4⟩, fun _ => rfl⟩ ?r4
              case y4 => (intro w; go_simp; try with_reducible rfl)
              case r4 =>
                refine wpAnyIn_take (i := 6) (v := ?v5) rfl rfl (by kernel_rfl) (by kernel_rfl) (by kernel_rfl) (fun _ _ _ h => h) ⟨Or.inl ⟨by rfl, ?y5⟩, fun _ => rfl⟩ ?r5
                case y5 => (intro w; go_simp; try with_reducible rfl)
                case r5 =>
                  refine wpAnyIn_ready (rs := [7]) (by kernel_rfl) (by simp) (AllReadyIn.cons rfl (fun K hK => ?_) AllReadyIn.nil)
                  · go_simp
                    refine hK _ _ ?_
                    clear hK K
                    refine wpAnyIn_ready (rs := [8]) (by kernel_rfl) (by simp) (AllReadyIn.cons rfl (fun K hK => ?_) AllReadyIn.nil)
                    · go_simp
                      refine hK _ _ ?_
                      clear hK K
                      refine wpAnyIn_done (by kernel_rfl) ?_ _
                      (gi_wp2; exact many_leaf hb hb' hB x)
            · go_simp
              refine hK _ _ ?_
              clear hK K
              refine wpAnyIn_ready (rs := [2]) (by kernel_rfl) (by simp) (AllReadyIn.cons rfl (fun K hK => ?_) AllReadyIn.nil)
              · go_simp
                refine hK _ _ ?_
                clear hK K
                refine wpAnyIn_take (i := 3) (v := ?v6) rfl rfl (by kernel_rfl) (by kernel_rfl) (by kernel_rfl) (fun _ _ _ h => h) ⟨Or.inl ⟨by rfl, ?y6⟩, fun _ => rfl⟩ ?r6
                case y6 => (intro w; go_simp; try with_reducible rfl)
                case r6 =>
                  refine wpAnyIn_take (i := 6) (v := ?v7) rfl rfl (by kernel_rfl) (by kernel_rfl) (by kernel_rfl) (fun _ _ _ h => h) ⟨Or.inl ⟨by rfl, ?y7⟩, fun _ => rfl⟩ ?r7
                  case y7 => (intro w; go_simp; try with_reducible rfl)
                  case r7 =>
                    refine wpAnyIn_ready (rs := [8]) (by kernel_rfl) (by simp) (AllReadyIn.cons rfl (fun K hK => ?_) AllReadyIn.nil)
                    · go_simp
                      refine hK _ _ ?_
                      clear hK K
                      refine wpAnyIn_done (by kernel_rfl) ?_ _
                      (gi_wp2; exact many_leaf hb hb' hB x)
        · go_simp
          refine hK _ _ ?_
          clear hK K
          refine wpAnyIn_take (i := 3) (v := ?v8) rfl rfl (by kernel_rfl) (by kernel_rfl) (by kernel_rfl) (fun _ _ _ h => h) ⟨Or.inl ⟨by rfl, ?y8⟩, fun _ => rfl⟩ ?r8
          case y8 => (intro w; go_simp; try with_reducible rfl)
          case r8 =>
            refine wpAnyIn_take (i := 6) (v := ?v9) rfl rfl (by kernel_rfl) (by kernel_rfl) (by kernel_rfl) (fun _ _ _ h => h) ⟨Or.inl ⟨by rfl, ?y9⟩, fun _ => rfl⟩ ?r9
            case y9 => (intro w; go_simp; try with_reducible rfl)
            case r9 =>
              refine wpAnyIn_ready (rs := [0]) (by kernel_rfl) (by simp) (AllReadyIn.cons rfl (fun K hK => ?_) AllReadyIn.nil)
              · go_simp
                refine hK _ _ ?_
                clear hK K
                refine wpAnyIn_take (i := 1) (v := ?v10) rfl rfl (by kernel_rfl) (by kernel_rfl) (by kernel_rfl) (fun _ _ _ h => h) ⟨Or.inl ⟨by rfl, ?y10⟩, fun _ => rfl⟩ ?r10
                case y10 => (intro w; go_simp; try with_reducible rfl)
                case r10 =>
                  refine wpAnyIn_ready (rs := [7]) (by kernel_rfl) (by simp) (AllReadyIn.cons rfl (fun K hK => ?_) AllReadyIn.nil)
                  · go_simp
                    refine hK _ _ ?_
                    clear hK K
                    refine wpAnyIn_ready (rs := [8]) (by kernel_rfl) (by simp) (AllReadyIn.cons rfl (fun K hK => ?_) AllReadyIn.nil)
                    · go_simp
                      refine hK _ _ ?_
                      clear hK K
                      refine wpAnyIn_done (by kernel_rfl) ?_ _
                      (gi_wp2; exact many_leaf hb hb' hB x)
  case done =>
    rintro D ys W hD hys ⟨⟨hb, hb'⟩, hB⟩ hK
    have hc1 := hb.cell
    have hc2 := hb'.cell
    by_cases he : sumZ ys = (n : Int)
    · have he' : (sumZ ys != (n : Int)) = false := by simpa using he
      have HE := Lib.hid he
      clear he
      gi_wp2
      refine ⟨by simp, .inl ⟨_, _, rfl, run_takeDeferred hK, ?_⟩⟩
      exact ⟨_, results_tmp rfl _ _ _, ⟨ys, hys, by rw [if_pos HE.out]; rfl⟩, hB.trans (belowK_b (w := w) (Nat.le_refl _) W D _ _ (by simp at hD; omega) hK rfl rfl)⟩
    · have he' : (sumZ ys != (n : Int)) = true := by simpa using he
      have HE := Lib.hid he
      clear he
      gi_wp2
      refine ⟨by simp, .inl ⟨_, _, rfl, run_takeDeferred hK, ?_⟩⟩
      exact ⟨_, results_tmp rfl _ _ _, ⟨ys, hys, by rw [if_neg HE.out]; rfl⟩, hB.trans (belowK_b (w := w) (Nat.le_refl _) W D _ _ (by simp at hD; omega) hK rfl rfl)⟩
  case stop =>
    rintro D c pre W _ _ h _
    exact h.elim

/-- how many values bytes are; -1: they are none's -/
def manyZ (l : List UInt8) : Int := if (itemsL l).foldl (fun s x => s + 5 + (x.2 : Int)) 0 = (l.length : Int) then ((itemsL l).length : Int) else -1

theorem items_bd : ∀ (f : Nat) (l : List UInt8), l.length ≤ f → (itemsF f l).length * 5 ≤ l.length ∧ ∀ x ∈ itemsF f l, x.2 ≤ 4194304
  | 0, l, h => by
    have e : l = [] := List.eq_nil_of_length_eq_zero (by omega)
    rw [e, itemsF_none rfl]; simp
  | f + 1, l, h => by
    cases hn : firstL l with
    | none => rw [itemsF_none hn]; simp
    | some x =>
      obtain ⟨t, N⟩ := x
      have h1 := firstL_len hn
      have h2 := items_bd f (l.drop (5 + N)) (by simp; omega)
      rw [itemsF_some hn]
      constructor
      · simp only [List.length_cons, List.length_drop] at h2 ⊢; omega
      · intro x hx
        rcases List.mem_cons.1 hx with rfl | hx
        · exact h1.2
        · exact h2.2 x hx

theorem folds_eq (ys : List TagSl) : (ys.length : Int) * 4194309 ≤ 4611686018427387904 → (∀ x ∈ ys, x.2.2.1 ≤ 4194304) →
    cntZ ys = ys.length ∧ sumZ ys = (ys.map (fun x : TagSl => (x.1, x.2.2.1))).foldl (fun s x => s + 5 + (x.2 : Int)) 0 ∧ 0 ≤ sumZ ys ∧ sumZ ys ≤ ys.length * 4194309 := by
  suffices H : ∀ zs : List TagSl, (zs.length : Int) * 4194309 ≤ 4611686018427387904 → (∀ x ∈ zs, x.2.2.1 ≤ 4194304) →
      cntZ zs.reverse = zs.length ∧ sumZ zs.reverse = (zs.reverse.map (fun x : TagSl => (x.1, x.2.2.1))).foldl (fun s x => s + 5 + (x.2 : Int)) 0 ∧ 0 ≤ sumZ zs.reverse ∧ sumZ zs.reverse ≤ zs.length * 4194309 by
    intro h1 h2
    have := H ys.reverse (by simpa using h1) (by simpa using h2)
    simpa using this
  intro zs
  induction zs with
  | nil => intro _ _; simp [cntZ, sumZ]
  | cons x zs ih =>
    intro h1 h2
    obtain ⟨i1, i2, i3, i4⟩ := ih (by simp at h1; omega) (fun y hy => h2 y (List.mem_cons_of_mem _ hy))
    have hx := h2 x (List.mem_cons_self ..)
    simp only [List.length_cons, Int.natCast_add, Int.natCast_one] at h1
    rw [List.reverse_cons, cntZ_snoc, sumZ_snoc, List.map_append, List.foldl_append, ← i2]
    have w1 : IntKind.i64.wrap (cntZ zs.reverse + 1) = cntZ zs.reverse + 1 := IntWalk.i64_in _ (by omega)
    have w2 : IntKind.i64.wrap (sumZ zs.reverse + 5) = sumZ zs.reverse + 5 := IntWalk.i64_in _ (by omega)
    have w3 : IntKind.i64.wrap (sumZ zs.reverse + 5 + (x.2.2.1 : Int)) = sumZ zs.reverse + 5 + (x.2.2.1 : Int) := IntWalk.i64_in _ (by omega)
    rw [w1, w2, w3]
    simp only [List.map_cons, List.map_nil, List.foldl_cons, List.foldl_nil, List.length_cons, Int.natCast_add, Int.natCast_one]
    clear w1 w2 w3
    exact ⟨by omega, trivial, by omega, by omega⟩

theorem tlv_many (A : Option Addr) (n c : Nat) (l : List UInt8) (G : Nat → Prop) (hnM : n ≤ 1099511627776) (hnc : n ≤ c) (w : World) (hr : Rd w G A n 1 (bV l)) :
    Calls Tryz.prog 93 #[.slice A n c] w fun e w' => e = .returned (.int .i64 (manyZ l)) ∧ Below w.heap.size w w' := by
  refine (callsIn_wide.1 (many_in A n c l G hnM hnc w hr)).mono ?_
  rintro e w' ⟨⟨ys, hys, rfl⟩, hb⟩
  refine ⟨?_, hb⟩
  have hnl : n = l.length := by have := hr.1; simpa using this.symm
  have hbd := items_bd l.length l (Nat.le_refl _)
  have hlen : ys.length = (itemsL l).length := by rw [← hys]; simp
  have hb1 : ys.length * 5 ≤ l.length := by rw [hlen]; exact hbd.1
  obtain ⟨f1, f2, _, _⟩ := folds_eq ys (by omega) (fun x hx => hbd.2 (x.1, x.2.2.1) (by
    have := List.mem_map_of_mem (f := fun x : TagSl => (x.1, x.2.2.1)) hx
    rwa [hys] at this))
  rw [f1, f2, hys, hnl, hlen, manyZ]

end Go.Proofs.YtenjdidjjggefaaGreat
