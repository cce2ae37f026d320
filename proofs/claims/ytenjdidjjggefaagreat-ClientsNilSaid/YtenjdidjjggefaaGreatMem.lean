import Derived.Test.YtenjdidjjggefaaGreatProg
import Derived.WalkKit
import Derived.WalkSpells
import Derived.WalkLawsBesides
import Derived.Lib.Hide
import Derived.Lib.Strings
import Derived.Lib.IndexBytes
import Derived.RangeFuncNested
import Derived.RangeFuncBound
import Derived.RangeFuncCalls
import Derived.RangeFuncLeaves
import Derived.RangeFuncBox
import Derived.Shelf.Abstract
import Derived.Shelf.RegionOpen
import Derived.OwnWalkIn
import Derived.TacticsInMore
import Derived.LoopNIn
import Derived.LoopIn
import Derived.Maps.AppendAt
import Derived.Deep.AppendLies
import Derived.Deep.Draws
import Derived.Deep.QuietTactic
import Derived.BigQuiet
namespace Go.Proofs.YtenjdidjjggefaaGreat
open Go.RowKit Go.Shelf

theorem wide_fn (k : FuncId) : Fence.wide.fn k = True := rfl
theorem wide_depth : Fence.wide.depth = none := rfl

theorem run_equalIn_func_nil {P : Program} (w : World) (d : Nat) {t : TypeId} {ps rs : Array TypeId} {v : Bool} (f : Fn) (a c : Array Value) (hu : P.underlying t = some (.func ps rs v)) :
    (Op.equalIn (d + 1) t (.func f a c) .nilFunc).run P w = .ok false w := by
  simp [Op.equalIn, run_underlying hu]
theorem run_neq_func_nil {P : Program} (w : World) {t : TypeId} {ps rs : Array TypeId} {v : Bool} (f : Fn) (a c : Array Value) (hu : P.underlying t = some (.func ps rs v)) :
    (binOp .neq t (.func f a c) .nilFunc).run P w = .ok (.bool true) w := by
  simp only [binOp]
  simp [Op.equal, Op.maxDepth, run_equalIn_func_nil w 9999 f a c hu]
theorem run_eql_func_nil {P : Program} (w : World) {t : TypeId} {ps rs : Array TypeId} {v : Bool} (f : Fn) (a c : Array Value) (hu : P.underlying t = some (.func ps rs v)) :
    (binOp .eql t (.func f a c) .nilFunc).run P w = .ok (.bool false) w := by
  simp only [binOp]
  simp [Op.equal, Op.maxDepth, run_equalIn_func_nil w 9999 f a c hu]

/-- what a round keeps: the blocks of a set -/
def KeepG (G : Nat → Prop) (A B : World) : Prop := A.heap.size ≤ B.heap.size ∧ ∀ k, G k → B.heap[k]? = A.heap[k]?
theorem KeepG.refl (G : Nat → Prop) (A : World) : KeepG G A A := ⟨Nat.le_refl _, fun _ _ => rfl⟩
theorem KeepG.trans {G : Nat → Prop} {A B C : World} (h : KeepG G A B) (k : KeepG G B C) : KeepG G A C :=
  ⟨Nat.le_trans h.1 k.1, fun i hi => (k.2 i hi).trans (h.2 i hi)⟩
theorem KeepG.cell {G : Nat → Prop} {A B : World} (h : KeepG G A B) {p : Addr} (hp : G p.block) : B.cell? p = A.cell? p := World.cell?_of_block (w := A) (h.2 p.block hp)
theorem KeepG.put {G : Nat → Prop} {w : World} (hG : ∀ k, G k → k < w.heap.size) (W : World) (l : Nat) (o o' : Obj) (hl : w.heap.size ≤ l) (h : W.heap[l]? = some o) (_ : o.isCells = false) (_ : o.isWalk = false) : KeepG G W (W.putObj l o') := by
  have hg := grownBy_putObj' W l o'
  refine ⟨hg.size, fun k hk => ?_⟩
  by_cases hkl : k = l
  · have := hG k hk; omega
  · have h2 := hG k hk
    exact hg.block k (by have := (Array.getElem?_eq_some_iff.1 h).1; omega) (fun e => hkl (Option.some.inj e))
theorem KeepG.setCell {G : Nat → Prop} {A W : World} (h : KeepG G A W) {p : Addr} (hp : ¬ G p.block) (u : Value) : KeepG G A (W.setCell p u) :=
  h.trans ⟨by simp [World.setCell], fun k hk => Below.heap_setCell _ _ _ _ (fun e => hp (e ▸ hk))⟩
theorem KeepG.alloc {G : Nat → Prop} {A W : World} (h : KeepG G A W) (hG : ∀ k, G k → k < W.heap.size) (o : Obj) : KeepG G A (W.alloc o) :=
  h.trans ⟨by simp, fun k hk => Below.heap_alloc _ _ _ (hG k hk)⟩

/-- the bytes as cells -/
def bV (l : List UInt8) : List Value := l.map fun u => .int .u8 (u.toNat : Int)
@[simp] theorem bV_length (l : List UInt8) : (bV l).length = l.length := by simp [bV]
theorem bV_append (l m : List UInt8) : bV (l ++ m) = bV l ++ bV m := by simp [bV]
theorem bV_getElem? (l : List UInt8) (i : Nat) : (bV l)[i]? = (l[i]?).map fun u => .int .u8 (u.toNat : Int) := by simp [bV]
theorem bV_one (l : List UInt8) : ∀ u ∈ bV l, u.oneCell' = true := by
  intro u hu
  obtain ⟨x, _, rfl⟩ := List.mem_map.1 hu
  rfl
theorem u8_inj {a b : UInt8} (h : Value.int .u8 (a.toNat : Int) = .int .u8 (b.toNat : Int)) : a = b := by
  have : (a.toNat : Int) = b.toNat := by simpa using h
  exact UInt8.toNat_inj.1 (by omega)
theorem bV_inj : ∀ {l m : List UInt8}, bV l = bV m → l = m
  | [], [], _ => rfl
  | [], _ :: _, h => by cases h
  | _ :: _, [], h => by cases h
  | a :: l, b :: m, h => by
    simp only [bV, List.map_cons, List.cons.injEq] at h
    rw [u8_inj h.1, bV_inj (l := l) (m := m) h.2]

/-- nothing that was there has turned but blocks of the set F -/
structure Chg (F : Nat → Prop) (w w' : World) : Prop where
  os : w'.os = w.os
  tape : w'.tape = w.tape
  output : w'.output = w.output
  size : w.heap.size ≤ w'.heap.size
  block : ∀ k, k < w.heap.size → ¬ F k → w'.heap[k]? = w.heap[k]?

theorem Chg.refl (F : Nat → Prop) (w : World) : Chg F w w := ⟨rfl, rfl, rfl, Nat.le_refl _, fun _ _ _ => rfl⟩
theorem Chg.mono {F G : Nat → Prop} {a b : World} (h : Chg F a b) (hF : ∀ k, k < a.heap.size → F k → G k) : Chg G a b :=
  ⟨h.os, h.tape, h.output, h.size, fun k hk hg => h.block k hk (fun hf => hg (hF k hk hf))⟩
theorem Chg.trans {F G : Nat → Prop} {a b c : World} (h : Chg F a b) (k : Chg G b c) (hG : ∀ k, G k → F k ∨ a.heap.size ≤ k) : Chg F a c :=
  ⟨k.os.trans h.os, k.tape.trans h.tape, k.output.trans h.output, Nat.le_trans h.size k.size, fun i hi hf =>
    (k.block i (Nat.lt_of_lt_of_le hi h.size) (fun hg => (hG i hg).elim hf (fun hx => by omega))).trans (h.block i hi hf)⟩
theorem Chg.same {F : Nat → Prop} {a b c : World} (h : Chg F a b) (k : Chg F b c) : Chg F a c := h.trans k fun _ => .inl
theorem Chg.below {F : Nat → Prop} {a b : World} (h : Chg F a b) {B : Nat} (hB : B ≤ a.heap.size) (hF : ∀ k, k < B → ¬ F k) : Below B a b :=
  ⟨h.os, h.tape, h.output, h.size, fun k hk => h.block k (by omega) (hF k hk)⟩
theorem Chg.of_below {B : Nat} {a b : World} (h : Below B a b) {F : Nat → Prop} (hF : ∀ k, B ≤ k → k < a.heap.size → F k) : Chg F a b :=
  ⟨h.os, h.tape, h.output, h.size, fun k hk hf => h.block k (by
    apply Decidable.byContradiction
    intro hx
    exact hf (hF k (by omega) hk))⟩
theorem Chg.of_below' {a b : World} (h : Below a.heap.size a b) (F : Nat → Prop) : Chg F a b := Chg.of_below h (fun k h1 h2 => by omega)
theorem Chg.drew {F : Nat → Prop} {a w : World} (h : Chg F a w) : Chg F a w.drew := ⟨h.os, h.tape, h.output, h.size, h.block⟩
theorem Chg.drewN {F : Nat → Prop} {a w : World} (h : Chg F a w) (n : Nat) : Chg F a (w.drewN n) := ⟨h.os, h.tape, h.output, h.size, h.block⟩
theorem below_drewN {B : Nat} {a w : World} (h : Below B a w) (n : Nat) : Below B a (w.drewN n) := ⟨h.os, h.tape, h.output, h.size, h.block⟩
theorem Chg.alloc {F : Nat → Prop} {a w : World} (h : Chg F a w) (o : Obj) : Chg F a (w.alloc o) :=
  h.trans (G := fun _ => False) ⟨rfl, rfl, rfl, by simp, fun k hk _ => Below.heap_alloc _ _ _ hk⟩ (fun _ h => h.elim)
theorem Chg.setCell {F : Nat → Prop} {a w : World} (h : Chg F a w) {p : Addr} (hp : F p.block ∨ a.heap.size ≤ p.block) (u : Value) : Chg F a (w.setCell p u) :=
  h.trans (G := (· = p.block)) ⟨rfl, rfl, rfl, by simp [World.setCell], fun k _ hk => Below.heap_setCell _ _ _ _ hk⟩ (fun k hk => hk ▸ hp)
theorem Chg.grown {F : Nat → Prop} {a w w' : World} {row : Option Nat} (h : Chg F a w) (hg : w.grownBy w' row) (hr : ∀ k, row = some k → F k ∨ a.heap.size ≤ k) : Chg F a w' :=
  h.trans (G := fun k => row = some k) ⟨hg.os, hg.tape, hg.output, hg.size, fun k hk hn => hg.block k hk (fun e => hn e.symm)⟩ hr
theorem Chg.cell {F : Nat → Prop} {a b : World} (h : Chg F a b) {p : Addr} (hp : p.block < a.heap.size) (hf : ¬ F p.block) : b.cell? p = a.cell? p := World.cell?_of_block (w := a) (h.block _ hp hf)
theorem lt_of_cell {w : World} {p : Addr} {v : Value} (h : w.cell? p = some v) : p.block < w.heap.size := by
  rcases Nat.lt_or_ge p.block w.heap.size with hlt | hge
  · exact hlt
  · rw [World.cell?, Array.getElem?_eq_none hge] at h; cases h

/-- block g is just the cells cs of element type t, none frozen -/
def Blk (w : World) (g : Nat) (t : TypeId) (cs : Array Value) : Prop := w.heap[g]? = some (.cells cs t (0, 0))
section
variable {w w' : World} {g : Nat} {t : TypeId} {cs : Array Value}
theorem Blk.lt (h : Blk w g t cs) : g < w.heap.size := by
  rcases Nat.lt_or_ge g w.heap.size with hlt | hge
  · exact hlt
  · unfold Blk at h; rw [Array.getElem?_eq_none hge] at h; cases h
theorem Blk.cell (h : Blk w g t cs) (i : Nat) : w.cell? ⟨g, i, none⟩ = cs[i]? := cell_of_row w g i cs t (0, 0) h
theorem Blk.frozen (h : Blk w g t cs) (i : Nat) : w.frozen? ⟨g, i, none⟩ = false := by
  unfold Blk at h
  simp [World.frozen?, h]
theorem Blk.new (w : World) (t : TypeId) (cs : Array Value) : Blk (w.alloc (.cells cs t)) w.heap.size t cs := heap_alloc_new w _
theorem Blk.drew (h : Blk w g t cs) : Blk w.drew g t cs := h
theorem Blk.alloc (h : Blk w g t cs) (o : Obj) : Blk (w.alloc o) g t cs := (Below.heap_alloc w o g h.lt).trans h
theorem Blk.set_ (h : Blk w g t cs) (i : Nat) (u : Value) : Blk (w.setCell ⟨g, i, none⟩ u) g t (cs.setIfInBounds i u) := by
  unfold Blk at h ⊢
  simp [World.setCell, Array.getElem?_modify, h]
theorem Blk.far (h : Blk w g t cs) {p : Addr} (hp : g ≠ p.block) (u : Value) : Blk (w.setCell p u) g t cs := (Below.heap_setCell w p u g hp).trans h
theorem Blk.chg {F : Nat → Prop} (h : Blk w g t cs) (hb : Chg F w w') (hg : ¬ F g) : Blk w' g t cs := (hb.block g h.lt hg).trans h
theorem Blk.below {B : Nat} (h : Blk w g t cs) (hb : Below B w w') (hg : g < B) : Blk w' g t cs := (hb.block g hg).trans h
theorem Blk.grown {row : Option Nat} (h : Blk w g t cs) (hb : w.grownBy w' row) (hg : some g ≠ row) : Blk w' g t cs := (hb.block g h.lt hg).trans h
theorem Blk.ne_ {g' : Nat} {t' : TypeId} {cs' : Array Value} (h : Blk w g t cs) (h' : Blk w g' t' cs') (hne : t ≠ t') : g ≠ g' := by
  rintro rfl
  unfold Blk at h h'
  rw [h] at h'
  injection h' with h'
  injection h' with _ ht
  exact hne ht
theorem own_blk_ne {base : Nat} {e : TypeId} {size n : Nat} {v : Value} {xs : List Value} (h : w.ownsRow base e size v n xs) (hg : Blk w g t cs) (hne : e ≠ t) : v.ownBlock ≠ some g := by
  rcases h.2 with ⟨rfl, _⟩ | ⟨g', cap, cur, rfl, _, hh, _⟩
  · simp [Value.ownBlock]
  · intro he
    have : g' = g := by simpa [Value.ownBlock] using he
    subst this
    exact Blk.ne_ (t := e) hh hg hne rfl
end

/-- the slice value '.slice A n _' holds the cells xs (size cells an element), in a block of the set G -/
def Rd (w : World) (G : Nat → Prop) (A : Option Addr) (n size : Nat) (xs : List Value) : Prop :=
  xs.length = n * size ∧ (0 < n → ∃ b off, A = some ⟨b, off, none⟩ ∧ G b ∧ b < w.heap.size ∧ ∀ j u, xs[j]? = some u → w.cell? ⟨b, off + j, none⟩ = some u)

section
variable {w w' : World} {G G' : Nat → Prop} {A : Option Addr} {n size : Nat} {xs : List Value}
theorem Rd.none_ (w : World) (G : Nat → Prop) (A : Option Addr) (size : Nat) : Rd w G A 0 size [] := ⟨by simp, fun h => absurd h (by omega)⟩
theorem Rd.at_ {k : Nat} (h : Rd w G A n 1 xs) (hk : k < n) : ∃ b off u, A = some ⟨b, off, none⟩ ∧ G b ∧ xs[k]? = some u ∧ w.cell? ⟨b, off + k, none⟩ = some u := by
  obtain ⟨b, off, e, hb, _, hc⟩ := h.2 (by omega)
  have hl : k < xs.length := by have := h.1; omega
  exact ⟨b, off, xs[k], e, hb, List.getElem?_eq_getElem hl, hc k _ (List.getElem?_eq_getElem hl)⟩
theorem Rd.keep (h : Rd w G A n size xs) (hsz : w.heap.size ≤ w'.heap.size) (hk : ∀ p : Addr, p.block < w.heap.size → G p.block → w'.cell? p = w.cell? p) : Rd w' G A n size xs :=
  ⟨h.1, fun hn => by
    obtain ⟨b, off, e, hb, hlt, hc⟩ := h.2 hn
    exact ⟨b, off, e, hb, by omega, fun j u hu => (hk ⟨b, off + j, none⟩ hlt hb).trans (hc j u hu)⟩⟩
theorem Rd.more (h : Rd w G A n size xs) (hB : ∀ k, k < w.heap.size → G k → G' k) : Rd w G' A n size xs :=
  ⟨h.1, fun hn => by
    obtain ⟨b, off, e, hb, hlt, hc⟩ := h.2 hn
    exact ⟨b, off, e, hB _ hlt hb, hlt, hc⟩⟩
theorem Rd.lt (h : Rd w G A n size xs) : Rd w (fun k => G k ∧ k < w.heap.size) A n size xs := h.more fun _ a b => ⟨b, a⟩
theorem Rd.chg {F : Nat → Prop} (h : Rd w G A n size xs) (hb : Chg F w w') (hG : ∀ k, k < w.heap.size → G k → ¬ F k) : Rd w' G A n size xs := h.keep hb.size fun p hp hg => hb.cell hp (hG _ hp hg)
theorem Rd.below {B : Nat} (h : Rd w G A n size xs) (hb : Below B w w') (hG : ∀ k, k < w.heap.size → G k → k < B) : Rd w' G A n size xs := h.keep hb.size fun _ hp hg => hb.cell (hG _ hp hg)
theorem Rd.drew (h : Rd w G A n size xs) : Rd w.drew G A n size xs := h
theorem Rd.drewN (h : Rd w G A n size xs) (k : Nat) : Rd (w.drewN k) G A n size xs := h
theorem Rd.alloc (h : Rd w G A n size xs) (o : Obj) : Rd (w.alloc o) G A n size xs := h.keep (by simp) fun p hp _ => World.cell?_alloc_lt w o p hp
theorem Rd.setCell (h : Rd w G A n size xs) {p : Addr} (hp : ∀ k, k < w.heap.size → G k → k ≠ p.block) (u : Value) : Rd (w.setCell p u) G A n size xs :=
  h.keep (by simp [World.setCell]) fun q hq hg => World.cell?_setCell_other w p q u (fun e => hp _ hq hg (by rw [e]))
theorem Rd.grown (h : Rd w G A n size xs) {row : Option Nat} (hg : w.grownBy w' row) (hr : ∀ k, k < w.heap.size → G k → some k ≠ row) : Rd w' G A n size xs :=
  h.keep hg.size fun p hp hG => World.cell?_of_block (hg.block p.block hp (hr _ hp hG))
theorem Rd.cut (h : Rd w G A n size xs) {k cap : Nat} (hk : k ≤ n) (hc : n ≤ cap) :
    Rd w G (if cap = k then A else A.map (·.add (k * size))) (n - k) size (xs.drop (k * size)) := by
  refine ⟨by rw [List.length_drop, h.1, Nat.sub_mul], fun hn => ?_⟩
  obtain ⟨b, off, rfl, hb, hlt, hcell⟩ := h.2 (by omega)
  rw [if_neg (by omega)]
  refine ⟨b, off + k * size, by simp only [Option.map_some, Addr.add]; split <;> simp_all, hb, hlt, fun j u hu => ?_⟩
  rw [Nat.add_assoc]
  exact hcell _ u (by rw [← hu, List.getElem?_drop])
theorem Rd.cutB {b off cap k : Nat} {l : List UInt8} (h : Rd w G (some ⟨b, off, none⟩) n 1 (bV l)) (hk : k ≤ n) (hc : n ≤ cap) :
    Rd w G (if cap = k then some ⟨b, off, none⟩ else some ⟨b, off + k, none⟩) (n - k) 1 (bV (l.drop k)) := by
  have hl := h.1
  simp only [bV_length, Nat.mul_one] at hl
  refine ⟨by rw [bV_length, List.length_drop]; omega, fun hn => ?_⟩
  obtain ⟨b', off', e, hb, hlt, hcell⟩ := h.2 (by omega)
  obtain ⟨rfl, rfl⟩ : b = b' ∧ off = off' := by simpa using e
  rw [if_neg (by omega)]
  refine ⟨b, off + k, rfl, hb, hlt, fun j u hu => ?_⟩
  rw [Nat.add_assoc]
  exact hcell _ u (by rw [← hu]; simp [bV, List.map_drop])
theorem Rd.takeB {l : List UInt8} (h : Rd w G A n 1 (bV l)) {k : Nat} (hk : k ≤ n) : Rd w G A k 1 (bV (l.take k)) := by
  have h2 := h.1
  simp only [bV_length, Nat.mul_one] at h2
  refine ⟨by simp; omega, fun hn => ?_⟩
  obtain ⟨b, off, e, hb, hlt, hc⟩ := h.2 (by omega)
  exact ⟨b, off, e, hb, hlt, fun j u hu => hc j u (by
    simp only [bV, List.map_take, List.getElem?_take] at hu ⊢
    split at hu
    · exact hu
    · cases hu)⟩
theorem Rd.take (h : Rd w G A n size xs) {k : Nat} (hk : k ≤ n) : Rd w G A k size (xs.take (k * size)) := by
  refine ⟨by rw [List.length_take, h.1]; exact Nat.min_eq_left (Nat.mul_le_mul_right _ hk), fun hn => ?_⟩
  obtain ⟨b, off, e, hb, hlt, hc⟩ := h.2 (by omega)
  exact ⟨b, off, e, hb, hlt, fun j u hu => hc j u (by
    rw [List.getElem?_take] at hu
    split at hu
    · exact hu
    · cases hu)⟩
/-- what the call owns, read -/
theorem Rd.of_own {base : Nat} {e : TypeId} {c : Nat} (h : w.ownsRow base e size (.slice A n c) n xs) (hG : ∀ k, (Value.slice A n c).ownBlock = some k → G k) : Rd w G A n size xs := by
  refine ⟨h.1, fun hn => ?_⟩
  rcases h.2 with ⟨_, h0⟩ | ⟨g, cap, cur, hv, _, hh, hnc, _, hcs, htk⟩
  · omega
  · obtain ⟨rfl, _, rfl⟩ : A = some ⟨g, 0, none⟩ ∧ n = n ∧ c = cap := by simpa using hv
    have hlt : g < w.heap.size := (Array.getElem?_eq_some_iff.1 hh).1
    refine ⟨g, 0, rfl, hG g rfl, hlt, fun j u hu => ?_⟩
    have := h.cells (g := g) rfl j u hu
    rw [Addr.add] at this
    split at this
    · rename_i hj; subst hj; exact this
    · simpa using this
end

theorem Rd.new (w : World) (cs : List Value) (e : TypeId) : Rd (w.alloc (.cells cs.toArray e)) (· = w.heap.size) (some ⟨w.heap.size, 0, none⟩) cs.length 1 cs :=
  ⟨by simp, fun _ => ⟨_, 0, rfl, rfl, by simp, fun j u hu => by
    have := (Blk.new w e cs.toArray).cell j
    rw [Nat.zero_add, this]
    simpa using hu⟩⟩

/-- an owned slice is written out -/
theorem own_form {w : World} {base : Nat} {e : TypeId} {size n : Nat} {v : Value} {xs : List Value} (h : w.ownsRow base e size v n xs) : ∃ A c, v = .slice A n c ∧ n ≤ c ∧ c ≤ maxLen := by
  rcases h.2 with ⟨rfl, rfl⟩ | ⟨g, cap, cur, rfl, _, _, hnc, hm, _⟩
  · exact ⟨none, 0, rfl, Nat.le_refl _, by unfold maxLen; omega⟩
  · exact ⟨_, cap, rfl, hnc, hm⟩
theorem own_chg {w w' : World} {F : Nat → Prop} {base : Nat} {e : TypeId} {size n : Nat} {v : Value} {xs : List Value} (h : w.ownsRow base e size v n xs) (hc : Chg F w w') (hF : ∀ k, v.ownBlock = some k → ¬ F k) : w'.ownsRow base e size v n xs := by
  refine ⟨h.1, ?_⟩
  rcases h.2 with h2 | ⟨g, cap, cur, rfl, hb, hh, r⟩
  · exact .inl h2
  · exact .inr ⟨g, cap, cur, rfl, hb, (hc.block g (Array.getElem?_eq_some_iff.1 hh).1 (hF g rfl)).trans hh, r⟩
theorem own_base {w : World} {base base' : Nat} {e : TypeId} {size n : Nat} {v : Value} {xs : List Value} (h : w.ownsRow base e size v n xs) (hb : ∀ k, v.ownBlock = some k → base' ≤ k) : w.ownsRow base' e size v n xs := by
  refine ⟨h.1, ?_⟩
  rcases h.2 with h2 | ⟨g, cap, cur, rfl, _, r⟩
  · exact .inl h2
  · exact .inr ⟨g, cap, cur, rfl, hb g rfl, r⟩

section
variable {P : Program} (w : World)

theorem run_append_of_nil (base : Nat) (t ty e : TypeId) (i : TypeInfo) (size : Nat) (ht : P.underlying t = some (.slice e)) (hi : P.info? e = some i)
    (v : Value) (n : Nat) (xs : List Value) (hown : w.ownsRow base e size v n xs) (c : Nat) : (Builtin.append_ #[t, t] ty #[v, .slice none 0 c]).run P w = .ok v w := by
  rcases hown.2 with ⟨rfl, rfl⟩ | ⟨g, cap, cur, rfl, _, _, hnc, _⟩
  · simp [Builtin.append_, run_underlying ht, sizeOf, typeInfo, hi, Builtin.lenOf, Builtin.firstCells]
  · simp [Builtin.append_, run_underlying ht, sizeOf, typeInfo, hi, Builtin.lenOf, Builtin.firstCells, hnc, storeCells]

theorem run_append_rd (base : Nat) (t ty e : TypeId) (i : TypeInfo) (z : Value) (size bytes : Nat) (ht : P.underlying t = some (.slice e)) (hi : P.info? e = some i) (hz : i.zero = some z)
    (hsize : i.size = size) (hby : i.bytes = bytes) (hzs : z.cells.size = size) (hsz : 0 < size)
    (v : Value) (n : Nat) (xs : List Value) (hown : w.ownsRow base e size v n xs)
    (G : Nat → Prop) (A : Option Addr) (m c : Nat) (news : List Value) (hr : Rd w G A m size news) (h1 : ∀ u ∈ news, u.oneCell' = true)
    (h63 : n + m ≤ maxLen) (hbytes : (n + m) * bytes ≤ 140737488355328) (hbase : base ≤ w.heap.size) :
    ∃ v' w', (Builtin.append_ #[t, t] ty #[v, .slice A m c]).run P w = .ok v' w' ∧ w'.ownsRow base e size v' (n + m) (xs ++ news) ∧ w.grownBy w' v.ownBlock ∧
      (v'.ownBlock = v.ownBlock ∨ v'.ownBlock = some w.heap.size) ∧ (v' = .slice none 0 0 ↔ v = .slice none 0 0 ∧ m = 0) := by
  rcases A with _ | ad
  · have hm : m = 0 := by
      rcases Nat.eq_zero_or_pos m with h0 | h0
      · exact h0
      · obtain ⟨_, _, h, _⟩ := hr.2 h0
        cases h
    subst hm
    have hn : news = [] := List.eq_nil_of_length_eq_zero (by simpa using hr.1)
    subst hn
    exact ⟨v, w, run_append_of_nil w base t ty e i size ht hi v n xs hown c, by simpa using hown, World.grownBy.refl w _, .inl rfl, by simp⟩
  · have hcells : ∀ j u, news[j]? = some u → w.cell? (ad.add j) = some u := by
      intro j u hu
      rcases Nat.eq_zero_or_pos m with h0 | h0
      · subst h0
        have hn : news = [] := List.eq_nil_of_length_eq_zero (by simpa using hr.1)
        subst hn
        simp at hu
      · obtain ⟨b, off, h, _, _, hc⟩ := hr.2 h0
        injection h with h
        subst h
        rw [Addr.add]
        split
        · rename_i hj; subst hj; simpa using hc 0 u hu
        · exact hc j u hu
    obtain ⟨v', w', hrun, h2, h3, h4, h5⟩ := run_append_own_at (P := P) w base t ty e i z size bytes ht hi hz hsize hby hzs hsz v n xs hown ad m c news hr.1 hcells h1 h63 hbytes hbase
    exact ⟨v', w', hrun, h2, h3, h5, h4⟩

theorem wpList_append_rd {ops : Array Oper} {rest : List Oper} {o : Oper} {a : Act} {Q : Exit → Act → World → Prop} (hgd : o.guard = none) (s x : Operand) (t : TypeId)
    (ho : o.op = .call { callee := .builtin .append, args := #[s, x], argTypes := #[t, t] })
    (base : Nat) (e : TypeId) (i : TypeInfo) (z : Value) (size bytes : Nat) (ht : P.underlying t = some (.slice e)) (hi : P.info? e = some i) (hz : i.zero = some z)
    (hsize : i.size = size) (hby : i.bytes = bytes) (hzs : z.cells.size = size) (hsz : 0 < size)
    (v : Value) (n : Nat) (xs : List Value) (hs : a.eval s = v) (hown : w.ownsRow base e size v n xs)
    (G : Nat → Prop) (A : Option Addr) (m c : Nat) (news : List Value) (hx : a.eval x = .slice A m c) (hr : Rd w G A m size news) (h1 : ∀ u ∈ news, u.oneCell' = true)
    (h63 : n + m ≤ maxLen) (hbytes : (n + m) * bytes ≤ 140737488355328) (hbase : base ≤ w.heap.size)
    (h : ∀ v' w', w'.ownsRow base e size v' (n + m) (xs ++ news) → w.grownBy w' v.ownBlock → (v'.ownBlock = v.ownBlock ∨ v'.ownBlock = some w.heap.size) → (v' = .slice none 0 0 ↔ v = .slice none 0 0 ∧ m = 0) → wpList P ops Q rest (a.put o.dst v') w') : wpList P ops Q (o :: rest) a w :=
  wpList_plain hgd fun K hK => by
    obtain ⟨v', w', hrun, h2, h3, h4, h5⟩ := run_append_rd (P := P) w base t o.type e i z size bytes ht hi hz hsize hby hzs hsz v n xs hown G A m c news hr h1 h63 hbytes hbase
    unfold Oper.wp execOp
    simp only [ho, resolve, invoke, builtin, Sem.run_bind, Sem.run_pure, Result.andThen_ok, List.map_toArray, List.map_cons, List.map_nil, hs, hx, hrun]
    exact hK _ _ (h v' w' h2 h3 h4 h5)
end

end Go.Proofs.YtenjdidjjggefaaGreat
