/- Words of this claim: memory as parts (a part is a set of blocks with what they hold); what a call makes, what it changes; rows of elements, read or owned. -/
import Derived.Below
import Derived.Maps.AppendAt
import Derived.Laws.OwnMore
import Derived.Laws.MakeOwn
import Derived.Laws.IdiomCopy
import Derived.OwnWalk
import Derived.Deep.Draws
import Derived.Deep.LoopGhost
import Derived.WalkKit
import Derived.KernelRfl
import Derived.RowKit3
import Derived.StillTailTactics
namespace Go.Proofs.Ytccioimicdggkaa.C
open Go.RowKit
set_option linter.unusedVariables false
set_option linter.unusedSimpArgs false

/-- A fact that the walk does not look into. -/
structure Kp (p : Prop) : Prop where mk :: (out : p)

/-! ### 1. Parts of memory -/
abbrev Hp := Nat → Option Obj
def emp : Hp := fun _ => none
def one (g : Nat) (o : Obj) : Hp := fun k => if k = g then some o else none
def cup (h1 h2 : Hp) : Hp := fun k => (h1 k).or (h2 k)
def hset (h : Hp) (g : Nat) (o : Obj) : Hp := fun k => if k = g then some o else h k
def Le (h1 h2 : Hp) : Prop := ∀ k o, h1 k = some o → h2 k = some o
def Disj (h1 h2 : Hp) : Prop := ∀ k, h1 k = none ∨ h2 k = none
def Sub (h : Hp) (w : World) : Prop := ∀ k o, h k = some o → w.heap[k]? = some o
def Fr (h : Hp) (n : Nat) : Prop := ∀ k, h k ≠ none → n ≤ k
/-- h1 and h2 are parts of h; apart from one another, where b says so. -/
def Part (b : Bool) (h1 h2 h : Hp) : Prop := (b = true → Disj h1 h2) ∧ Le h1 h ∧ Le h2 h
theorem Le.refl (h : Hp) : Le h h := fun _ _ e => e
theorem Le.trans {a b c : Hp} (h : Le a b) (k : Le b c) : Le a c := fun i o e => k i o (h i o e)
theorem Le.emp (h : Hp) : Le emp h := fun _ _ e => by simp [C.emp] at e
theorem Disj.symm {a b : Hp} (h : Disj a b) : Disj b a := fun k => (h k).symm
theorem Disj.emp (h : Hp) : Disj emp h := fun _ => .inl rfl
theorem Disj.emp' (h : Hp) : Disj h C.emp := fun _ => .inr rfl
theorem Disj.mono {a b a' b' : Hp} (h : Disj a b) (ha : Le a' a) (hb : Le b' b) : Disj a' b' := fun k => by
  rcases h k with h1 | h1
  · left
    cases he : a' k with
    | none => rfl
    | some o => rw [ha k o he] at h1; cases h1
  · right
    cases he : b' k with
    | none => rfl
    | some o => rw [hb k o he] at h1; cases h1
theorem cup_none {a b : Hp} {k : Nat} : cup a b k = none ↔ a k = none ∧ b k = none := by
  unfold cup; cases a k <;> simp
theorem Le.cupL (a b : Hp) : Le a (cup a b) := fun k o e => by simp [cup, e]
theorem Le.cupR {a b : Hp} (h : Disj a b) : Le b (cup a b) := fun k o e => by
  rcases h k with h1 | h1
  · simp [cup, h1, e]
  · rw [h1] at e; cases e
theorem Le.cupC {a b c : Hp} (h1 : Le a c) (h2 : Le b c) : Le b (cup a b) := fun k o e => by
  unfold C.cup
  cases ha : a k with
  | none => simpa using e
  | some p => have h3 := h1 k p ha; rw [h2 k o e] at h3; simpa using h3.symm
theorem Le.cup {a b c : Hp} (h1 : Le a c) (h2 : Le b c) : Le (cup a b) c := fun k o e => by
  unfold C.cup at e
  cases ha : a k with
  | none => rw [ha] at e; exact h2 k o (by simpa using e)
  | some p => rw [ha] at e; exact h1 k o (by rw [ha]; simpa using e)
theorem Disj.cup {a b c : Hp} (h1 : Disj a c) (h2 : Disj b c) : Disj (cup a b) c := fun k => by
  rcases h1 k with h | h
  · rcases h2 k with h' | h'
    · left; exact cup_none.2 ⟨h, h'⟩
    · exact .inr h'
  · exact .inr h
theorem Disj.of_cup {a b c : Hp} (h : Disj (C.cup a b) c) : Disj a c ∧ Disj b c :=
  ⟨fun k => (h k).imp (fun e => (cup_none.1 e).1) id, fun k => (h k).imp (fun e => (cup_none.1 e).2) id⟩
theorem Part.refl (h : Hp) : Part true C.emp h h := ⟨fun _ => Disj.emp h, Le.emp h, Le.refl h⟩
theorem Part.cup {a b : Hp} (h : Disj a b) : Part true a b (cup a b) := ⟨fun _ => h, Le.cupL a b, Le.cupR h⟩
theorem Part.mono {b : Bool} {h1 h2 h h' : Hp} (p : Part b h1 h2 h) (l : Le h h') : Part b h1 h2 h' := ⟨p.1, p.2.1.trans l, p.2.2.trans l⟩
theorem Part.weak {b : Bool} {h1 h2 h : Hp} (p : Part b h1 h2 h) : Part false h1 h2 h := ⟨fun e => (by cases e), p.2⟩
theorem Part.any (b : Bool) (h : Hp) : Part b C.emp h h := ⟨fun _ => Disj.emp h, Le.emp h, Le.refl h⟩
theorem Sub.le {a b : Hp} {w : World} (h : Sub b w) (l : Le a b) : Sub a w := fun k o e => h k o (l k o e)
theorem Sub.emp (w : World) : Sub emp w := fun _ _ e => by simp [C.emp] at e
theorem Sub.cup {a b : Hp} {w : World} (h1 : Sub a w) (h2 : Sub b w) : Sub (cup a b) w := fun k o e => by
  unfold C.cup at e
  cases ha : a k with
  | none => rw [ha] at e; exact h2 k o (by simpa using e)
  | some p => rw [ha] at e; exact h1 k o (by rw [ha]; simpa using e)
theorem Sub.lt {h : Hp} {w : World} (s : Sub h w) {k : Nat} (hk : h k ≠ none) : k < w.heap.size := by
  cases he : h k with
  | none => exact absurd he hk
  | some o => exact (Array.getElem?_eq_some_iff.1 (s k o he)).1
theorem Sub.disj {a b : Hp} {w : World} (s : Sub a w) (f : Fr b w.heap.size) : Disj a b := fun k => by
  by_cases ha : a k = none
  · exact .inl ha
  · right
    cases hb : b k with
    | none => rfl
    | some o => have := f k (by simp [hb]); have := s.lt ha; omega
theorem Sub.step {h : Hp} {w w1 : World} (s : Sub h w) (hb : ∀ k, h k ≠ none → k < w.heap.size → w1.heap[k]? = w.heap[k]?) : Sub h w1 := fun k o e =>
  (hb k (by simp [e]) (s.lt (by simp [e]))).trans (s k o e)
theorem Sub.below {h : Hp} {w w1 : World} (s : Sub h w) (hb : Below w.heap.size w w1) : Sub h w1 := s.step fun k _ hk => hb.block k hk
/-- All of a world. -/
def hpOf (w : World) : Hp := fun k => w.heap[k]?
theorem Sub.of (w : World) : Sub (hpOf w) w := fun _ _ e => e

theorem bl {w W W1 : World} (h : Below w.heap.size w W) (hb : Below W.heap.size W W1) : Below w.heap.size w W1 := h.trans (hb.mono h.size)
theorem ba {w W : World} (h : Below w.heap.size w W) (o : Obj) : Below w.heap.size w (W.alloc o) := h.alloc h.size o
theorem bs {B : Nat} {w W : World} (h : Below B w W) {g i : Nat} {u : Value} (hg : B ≤ g) : Below B w (W.setCell ⟨g, i, none⟩ u) := h.setCell hg u
theorem b0 (w : World) (o : Obj) : Below w.heap.size w (w.alloc o) := (Below.refl _ _).alloc (Nat.le_refl _) o
/-- What lay there lies there still, cell by cell: two rules for the walk, and the sizes. -/
theorem bcell {W w1 : World} (hb : Below W.heap.size W w1) : (∀ b o, b < W.heap.size → w1.cell? ⟨b, o, none⟩ = W.cell? ⟨b, o, none⟩) ∧ (∀ b o, b < W.heap.size → w1.frozen? ⟨b, o, none⟩ = W.frozen? ⟨b, o, none⟩) ∧ W.heap.size ≤ w1.heap.size :=
  ⟨fun b o h => hb.cell (p := ⟨b, o, none⟩) h, fun b o h => hb.frozen (p := ⟨b, o, none⟩) h, hb.size⟩
/-! ### 2. What a call does: of what was there it changed h at most; h' lies there behind it, made of h's blocks and new ones -/
structure Step (h : Hp) (w : World) (h' : Hp) (w' : World) : Prop where
  os : w'.os = w.os
  tape : w'.tape = w.tape
  output : w'.output = w.output
  size : w.heap.size ≤ w'.heap.size
  block : ∀ k, k < w.heap.size → h k = none → w'.heap[k]? = w.heap[k]?
  sub : Sub h' w'
  dom : ∀ k, h' k ≠ none → h k ≠ none ∨ w.heap.size ≤ k
section
variable {h h' h1 h2 h3 F G : Hp} {w w' w0 w1 w2 w3 : World}
theorem Step.below (s : Step emp w h' w') : Below w.heap.size w w' := ⟨s.os, s.tape, s.output, s.size, fun k hk => s.block k hk rfl⟩
theorem Step.fr (s : Step emp w h' w') : Fr h' w.heap.size := fun k hk => (s.dom k hk).resolve_left (fun e => e rfl)
theorem Step.of_below (b : Below w.heap.size w w') : Step emp w emp w' := ⟨b.os, b.tape, b.output, b.size, fun k hk _ => b.block k hk, Sub.emp _, fun k hk => absurd rfl hk⟩
theorem Step.start (s : Sub h w) : Step h w h w := ⟨rfl, rfl, rfl, Nat.le_refl _, fun _ _ _ => rfl, s, fun k hk => .inl hk⟩
theorem Step.less (s : Step h w h' w') (l : Le h1 h') : Step h w h1 w' := ⟨s.os, s.tape, s.output, s.size, s.block, s.sub.le l, fun k hk => s.dom k (fun e => hk (by
  cases he : h1 k with
  | none => rfl
  | some o => rw [l k o he] at e; cases e))⟩
theorem Step.trans (s : Step h w h1 w1) (t : Step h1 w1 h2 w2) : Step h w h2 w2 :=
  ⟨t.os.trans s.os, t.tape.trans s.tape, t.output.trans s.output, Nat.le_trans s.size t.size,
   fun k hk hn => (t.block k (Nat.lt_of_lt_of_le hk s.size) (by
     cases he : h1 k with
     | none => rfl
     | some o => rcases s.dom k (by simp [he]) with h3 | h3
                 · exact absurd hn h3
                 · omega)).trans (s.block k hk hn),
   t.sub, fun k hk => by
     rcases t.dom k hk with h3 | h3
     · exact s.dom k h3
     · have := s.size; exact .inr (by omega)⟩
theorem Step.kept (s : Step h w h' w') (f : Sub F w) (d : Disj h F) : Sub F w' := f.step fun k hk hlt => s.block k hlt ((d k).resolve_right hk)
theorem Step.apart (s : Step h w h' w') (f : Sub F w) (d : Disj h F) : Disj h' F := fun k => by
  by_cases hk : h' k = none
  · exact .inl hk
  · right
    cases hf : F k with
    | none => rfl
    | some o =>
      rcases s.dom k hk with h3 | h3
      · exact absurd ((d k).resolve_right (by simp [hf])) h3
      · have := f.lt (k := k) (by simp [hf]); omega
/-- The same with more beside it. -/
theorem Step.frame (s : Step h w h' w') (f : Sub F w) (d : Disj h F) : Step (cup h F) w (cup h' F) w' :=
  ⟨s.os, s.tape, s.output, s.size, fun k hk hn => s.block k hk (cup_none.1 hn).1, s.sub.cup (s.kept f d), fun k hk => by
    by_cases h3 : h' k = none
    · left
      intro e
      exact hk (cup_none.2 ⟨h3, (cup_none.1 e).2⟩)
    · rcases s.dom k h3 with h4 | h4
      · exact .inl (fun e => h4 (cup_none.1 e).1)
      · exact .inr h4⟩

/-! ### 3. What holds in the middle of a walk: since w0 only H has changed; the parts hs lie there, apart from one another and from the boxes bs (blocks of the call's own variables) -/
structure Holds (H : Hp) (w0 w : World) (bs : List Nat) (hs : List Hp) : Prop where
  os : w.os = w0.os
  tape : w.tape = w0.tape
  output : w.output = w0.output
  size : w0.heap.size ≤ w.heap.size
  block : ∀ k, k < w0.heap.size → H k = none → w.heap[k]? = w0.heap[k]?
  sub : ∀ h ∈ hs, Sub h w
  dom : ∀ h ∈ hs, ∀ k, h k ≠ none → H k ≠ none ∨ w0.heap.size ≤ k
  pw : hs.Pairwise Disj
  box : ∀ g ∈ bs, w0.heap.size ≤ g ∧ g < w.heap.size ∧ ∀ h ∈ hs, h g = none
variable {H : Hp} {hs hs' : List Hp} {bs bs' : List Nat}
theorem Le.nn {a b : Hp} (l : Le a b) {k : Nat} (h : a k ≠ none) : b k ≠ none := by
  cases he : a k with
  | none => exact absurd he h
  | some o => rw [l k o he]; simp
theorem Holds.start (s : Sub H w) : Holds H w w [] [H] := ⟨rfl, rfl, rfl, Nat.le_refl _, fun _ _ _ => rfl, by simpa using s, by simp; intro k hk; exact .inl hk, List.pairwise_singleton _ _, by simp⟩
theorem Holds.start0 (w : World) : Holds emp w w [] [] := ⟨rfl, rfl, rfl, Nat.le_refl _, fun _ _ _ => rfl, by simp, by simp, List.Pairwise.nil, by simp⟩
theorem Holds.quiet (a : Holds H w0 w bs hs) (b : Below w.heap.size w w1) : Holds H w0 w1 bs hs :=
  ⟨b.os.trans a.os, b.tape.trans a.tape, b.output.trans a.output, Nat.le_trans a.size b.size, fun k hk hn => (b.block k (Nat.lt_of_lt_of_le hk a.size)).trans (a.block k hk hn), fun h hm => (a.sub h hm).below b, a.dom, a.pw,
   fun g hg => ⟨(a.box g hg).1, Nat.lt_of_lt_of_le (a.box g hg).2.1 b.size, (a.box g hg).2.2⟩⟩
theorem Holds.alloc (a : Holds H w0 w bs hs) (o : Obj) : Holds H w0 (w.alloc o) bs hs := a.quiet (b0 _ o)
theorem Holds.drew (a : Holds H w0 w bs hs) : Holds H w0 w.drew bs hs := a.quiet (Below.refl _ _).drew
theorem Holds.drewN (a : Holds H w0 w bs hs) (n : Nat) : Holds H w0 (w.drewN n) bs hs := a.quiet ⟨rfl, rfl, rfl, Nat.le_refl _, fun _ _ => rfl⟩
theorem Holds.below (a : Holds emp w0 w bs hs) : Below w0.heap.size w0 w := ⟨a.os, a.tape, a.output, a.size, fun k hk => a.block k hk rfl⟩
/-- A box for a variable. -/
theorem Holds.boxed (a : Holds H w0 w bs hs) (o : Obj) : Holds H w0 (w.alloc o) (w.heap.size :: bs) hs := by
  have q := a.alloc o
  refine ⟨q.os, q.tape, q.output, q.size, q.block, q.sub, q.dom, q.pw, fun g hg => ?_⟩
  rcases List.mem_cons.1 hg with rfl | hg
  · refine ⟨a.size, by simp, fun h hm => ?_⟩
    cases he : h w.heap.size with
    | none => rfl
    | some p => exact absurd ((a.sub h hm).lt (k := w.heap.size) (by simp [he])) (Nat.lt_irrefl _)
  · exact q.box g hg
/-- A store into a box. -/
theorem Holds.poke (a : Holds H w0 w bs hs) {g i : Nat} {u : Value} (hg : g ∈ bs) : Holds H w0 (w.setCell ⟨g, i, none⟩ u) bs hs := by
  obtain ⟨h1, h2, h3⟩ := a.box g hg
  refine ⟨a.os, a.tape, a.output, by simp; exact a.size, fun k hk hn => (Below.heap_setCell _ _ _ _ (by show k ≠ g; omega)).trans (a.block k hk hn), fun h hm => (a.sub h hm).step fun k hk _ => Below.heap_setCell _ _ _ _ (by rintro rfl; exact hk (h3 h hm)), a.dom, a.pw, fun k hk => ⟨(a.box k hk).1, by simp; exact (a.box k hk).2.1, (a.box k hk).2.2⟩⟩
/-- A call that changes the first part at most. -/
theorem Holds.call (a : Holds H w0 w bs (h :: hs)) (s : Step h w h' w') : Holds H w0 w' bs (h' :: hs) := by
  have hp := List.pairwise_cons.1 a.pw
  refine ⟨s.os.trans a.os, s.tape.trans a.tape, s.output.trans a.output, Nat.le_trans a.size s.size, fun k hk hn => (s.block k (Nat.lt_of_lt_of_le hk a.size) ?_).trans (a.block k hk hn), ?_, ?_, ?_, ?_⟩
  · cases he : h k with
    | none => rfl
    | some o => rcases a.dom h (by simp) k (by simp [he]) with h3 | h3
                · exact absurd hn h3
                · omega
  · intro g hg
    rcases List.mem_cons.1 hg with rfl | hg
    · exact s.sub
    · exact s.kept (a.sub g (by simp [hg])) (hp.1 g hg)
  · intro g hg k hk
    rcases List.mem_cons.1 hg with rfl | hg
    · rcases s.dom k hk with h3 | h3
      · exact a.dom h (by simp) k h3
      · have := a.size; exact .inr (by omega)
    · exact a.dom g (by simp [hg]) k hk
  · exact List.pairwise_cons.2 ⟨fun g hg => s.apart (a.sub g (by simp [hg])) (hp.1 g hg), hp.2⟩
  · intro g hg
    obtain ⟨h1, h2, h3⟩ := a.box g hg
    refine ⟨h1, Nat.lt_of_lt_of_le h2 s.size, fun x hx => ?_⟩
    rcases List.mem_cons.1 hx with rfl | hx
    · by_cases hn : x g = none
      · exact hn
      · rcases s.dom g hn with h4 | h4
        · exact absurd (h3 h (by simp)) h4
        · omega
    · exact h3 x (by simp [hx])
theorem Holds.put (a : Holds H w0 w bs hs) : Holds H w0 w bs (emp :: hs) :=
  ⟨a.os, a.tape, a.output, a.size, a.block, by simp only [List.forall_mem_cons]; exact ⟨Sub.emp w, a.sub⟩, by simp only [List.forall_mem_cons]; exact ⟨fun k hk => absurd rfl hk, a.dom⟩, List.pairwise_cons.2 ⟨fun g _ => Disj.emp g, a.pw⟩,
   fun g hg => ⟨(a.box g hg).1, (a.box g hg).2.1, by simp only [List.forall_mem_cons]; exact ⟨rfl, (a.box g hg).2.2⟩⟩⟩
/-- A call that only makes. -/
theorem Holds.make (a : Holds H w0 w bs hs) (s : Step emp w h' w') : Holds H w0 w' bs (h' :: hs) := a.put.call s
theorem Holds.perm (a : Holds H w0 w bs hs) (p : List.Perm hs hs') : Holds H w0 w bs hs' :=
  ⟨a.os, a.tape, a.output, a.size, a.block, fun h hm => a.sub h (p.mem_iff.2 hm), fun h hm => a.dom h (p.mem_iff.2 hm), p.pairwise a.pw (fun d => d.symm), fun g hg => ⟨(a.box g hg).1, (a.box g hg).2.1, fun h hm => (a.box g hg).2.2 h (p.mem_iff.2 hm)⟩⟩
theorem Holds.swap (a : Holds H w0 w bs (h1 :: h2 :: hs)) : Holds H w0 w bs (h2 :: h1 :: hs) := a.perm (List.Perm.swap _ _ _)
theorem Holds.third (a : Holds H w0 w bs (h1 :: h2 :: h3 :: hs)) : Holds H w0 w bs (h3 :: h1 :: h2 :: hs) := a.perm ((((List.Perm.swap h3 h2 hs).cons h1)).trans (List.Perm.swap h3 h1 (h2 :: hs)))
theorem Holds.fourth {h4 : Hp} (a : Holds H w0 w bs (h1 :: h2 :: h3 :: h4 :: hs)) : Holds H w0 w bs (h4 :: h1 :: h2 :: h3 :: hs) := a.perm (List.perm_middle (l₁ := [h1, h2, h3]))
theorem Holds.back4 {h4 : Hp} (a : Holds H w0 w bs (h4 :: h1 :: h2 :: h3 :: hs)) : Holds H w0 w bs (h1 :: h2 :: h3 :: h4 :: hs) := a.perm (List.perm_middle (l₁ := [h1, h2, h3])).symm
theorem Holds.fifth {h4 h5 : Hp} (a : Holds H w0 w bs (h1 :: h2 :: h3 :: h4 :: h5 :: hs)) : Holds H w0 w bs (h5 :: h1 :: h2 :: h3 :: h4 :: hs) := a.perm (List.perm_middle (l₁ := [h1, h2, h3, h4]))
theorem Holds.tail (a : Holds H w0 w bs (h :: hs)) : Holds H w0 w bs hs :=
  ⟨a.os, a.tape, a.output, a.size, a.block, fun g hg => a.sub g (by simp [hg]), fun g hg => a.dom g (by simp [hg]), (List.pairwise_cons.1 a.pw).2, fun g hg => ⟨(a.box g hg).1, (a.box g hg).2.1, fun h hm => (a.box g hg).2.2 h (by simp [hm])⟩⟩
theorem Holds.nobox (a : Holds H w0 w bs hs) : Holds H w0 w [] hs := ⟨a.os, a.tape, a.output, a.size, a.block, a.sub, a.dom, a.pw, by simp⟩
theorem Holds.unbox (a : Holds H w0 w bs hs) (hb : ∀ g ∈ bs', g ∈ bs) : Holds H w0 w bs' hs := ⟨a.os, a.tape, a.output, a.size, a.block, a.sub, a.dom, a.pw, fun g hg => a.box g (hb g hg)⟩
theorem Holds.split (a : Holds H w0 w bs (h :: hs)) (p : Part true h1 h2 h) : Holds H w0 w bs (h1 :: h2 :: hs) := by
  have hp := List.pairwise_cons.1 a.pw
  refine ⟨a.os, a.tape, a.output, a.size, a.block, ?_, ?_, ?_, ?_⟩
  · intro g hg
    simp only [List.mem_cons] at hg
    rcases hg with rfl | rfl | hg
    · exact (a.sub h (by simp)).le p.2.1
    · exact (a.sub h (by simp)).le p.2.2
    · exact a.sub g (by simp [hg])
  · intro g hg k hk
    simp only [List.mem_cons] at hg
    rcases hg with rfl | rfl | hg
    · exact a.dom h (by simp) k (p.2.1.nn hk)
    · exact a.dom h (by simp) k (p.2.2.nn hk)
    · exact a.dom g (by simp [hg]) k hk
  · refine List.pairwise_cons.2 ⟨?_, List.pairwise_cons.2 ⟨fun g hg => (hp.1 g hg).mono p.2.2 (Le.refl _), hp.2⟩⟩
    intro g hg
    rcases List.mem_cons.1 hg with rfl | hg
    · exact p.1 rfl
    · exact (hp.1 g hg).mono p.2.1 (Le.refl _)
  · intro g hg
    obtain ⟨q1, q2, q3⟩ := a.box g hg
    refine ⟨q1, q2, fun x hx => ?_⟩
    simp only [List.mem_cons] at hx
    have hn := q3 h (by simp)
    rcases hx with rfl | rfl | hx
    · exact Classical.byContradiction fun e => p.2.1.nn e hn
    · exact Classical.byContradiction fun e => p.2.2.nn e hn
    · exact q3 x (by simp [hx])
theorem Holds.disj (a : Holds H w0 w bs (h1 :: h2 :: hs)) : Disj h1 h2 := (List.pairwise_cons.1 a.pw).1 h2 (by simp)
theorem Holds.join (a : Holds H w0 w bs (h1 :: h2 :: hs)) : Holds H w0 w bs (cup h1 h2 :: hs) := by
  have hp := List.pairwise_cons.1 a.pw
  have hq := List.pairwise_cons.1 hp.2
  refine ⟨a.os, a.tape, a.output, a.size, a.block, ?_, ?_, ?_, ?_⟩
  · intro g hg
    rcases List.mem_cons.1 hg with rfl | hg
    · exact (a.sub h1 (by simp)).cup (a.sub h2 (by simp))
    · exact a.sub g (by simp [hg])
  · intro g hg k hk
    rcases List.mem_cons.1 hg with rfl | hg
    · by_cases h3 : h1 k = none
      · exact a.dom h2 (by simp) k (fun e => hk (cup_none.2 ⟨h3, e⟩))
      · exact a.dom h1 (by simp) k h3
    · exact a.dom g (by simp [hg]) k hk
  · exact List.pairwise_cons.2 ⟨fun g hg => Disj.cup (hp.1 g (by simp [hg])) (hq.1 g hg), hq.2⟩
  · intro g hg
    obtain ⟨q1, q2, q3⟩ := a.box g hg
    refine ⟨q1, q2, fun x hx => ?_⟩
    rcases List.mem_cons.1 hx with rfl | hx
    · exact cup_none.2 ⟨q3 h1 (by simp), q3 h2 (by simp)⟩
    · exact q3 x (by simp [hx])
theorem Holds.less (a : Holds H w0 w bs (h :: hs)) (l : Le h1 h) : Holds H w0 w bs (h1 :: hs) := (a.split (h1 := h1) (h2 := emp) ⟨fun _ => Disj.emp' _, l, Le.emp _⟩).swap.tail
theorem Holds.step (a : Holds H w0 w bs (h :: hs)) : Step H w0 h w := ⟨a.os, a.tape, a.output, a.size, a.block, a.sub h (by simp), a.dom h (by simp)⟩
theorem Holds.make2 (a : Holds H w0 w bs hs) (s : Holds emp w w' [] [h2, h1]) : Holds H w0 w' bs (h2 :: h1 :: hs) := by
  have j := (a.make s.join.step).split (Part.cup s.disj)
  exact j
theorem Holds.step0 (a : Holds H w0 w bs hs) : Step H w0 emp w := a.put.step
/-- What lay there at the start, apart from what may change. -/
theorem Holds.came (a : Holds H w0 w bs hs) (s : Sub F w0) (d : Disj H F) : Sub F w := s.step fun k hk hlt => a.block k hlt ((d k).resolve_right hk)
theorem Holds.came0 (a : Holds emp w0 w bs hs) (s : Sub F w0) : Sub F w := a.came s (Disj.emp F)
theorem Holds.fst (a : Holds H w0 w bs (h :: hs)) : Sub h w := a.sub h (by simp)
theorem Holds.snd (a : Holds H w0 w bs (h1 :: h :: hs)) : Sub h w := a.sub h (by simp)

/-! ### 4. A store into a block of the first part -/
theorem heap_set (w : World) (g i : Nat) (cs : Array Value) (t : TypeId) (v : Value) (hg : w.heap[g]? = some (.cells cs t (0, 0))) :
    (w.setCell ⟨g, i, none⟩ v).heap[g]? = some (.cells (cs.setIfInBounds i v) t (0, 0)) := heap_setCell_same w g i cs t v hg
theorem Step.store (s : Sub h w) {g : Nat} {cs : Array Value} {t : TypeId} (hg : h g = some (.cells cs t (0, 0))) (i : Nat) (v : Value) :
    Step h w (hset h g (.cells (cs.setIfInBounds i v) t (0, 0))) (w.setCell ⟨g, i, none⟩ v) := by
  refine ⟨rfl, rfl, rfl, by simp, fun k _ hn => Below.heap_setCell _ _ _ _ (by rintro rfl; rw [hg] at hn; cases hn), ?_, ?_⟩
  · intro k o e
    unfold hset at e
    by_cases hk : k = g
    · subst hk
      rw [if_pos rfl] at e
      cases e
      exact heap_set w k i cs t v (s k _ hg)
    · rw [if_neg hk] at e
      rw [Below.heap_setCell _ _ _ _ hk]
      exact s k o e
  · intro k hk
    unfold hset at hk
    by_cases h3 : k = g
    · subst h3; exact .inl (by simp [hg])
    · rw [if_neg h3] at hk; exact .inl hk
theorem hset_hset (h : Hp) (g : Nat) (o p : Obj) : hset (hset h g o) g p = hset h g p := by
  funext k; unfold hset; split <;> rfl
theorem hset_at (h : Hp) (g : Nat) (o : Obj) : hset h g o g = some o := by simp [hset]
theorem Holds.store (a : Holds H w0 w bs (h :: hs)) {g : Nat} {cs : Array Value} {t : TypeId} (hg : h g = some (.cells cs t (0, 0))) (i : Nat) (v : Value) :
    Holds H w0 (w.setCell ⟨g, i, none⟩ v) bs (hset h g (.cells (cs.setIfInBounds i v) t (0, 0)) :: hs) := a.call (Step.store a.fst hg i v)
theorem hset_one (g : Nat) (o p : Obj) : hset (one g o) g p = one g p := by
  funext k; unfold hset one; split <;> rfl
theorem Holds.store1 {g : Nat} {u v : Value} {t : TypeId} (a : Holds H w0 w bs (one g (.cells #[u] t (0, 0)) :: hs)) : Holds H w0 (w.setCell ⟨g, 0, none⟩ v) bs (one g (.cells #[v] t (0, 0)) :: hs) := by
  have h := a.store (if_pos rfl) 0 v
  rw [hset_one] at h
  exact h
theorem sub_cell {g : Nat} {cs : Array Value} {t : TypeId} {fr : Nat × Nat} (s : Sub h w) (hg : h g = some (.cells cs t fr)) (i : Nat) : w.cell? ⟨g, i, none⟩ = cs[i]? := cell_of_row w g i cs t fr (s g _ hg)
theorem sub_frozen {g : Nat} {cs : Array Value} {t : TypeId} (s : Sub h w) (hg : h g = some (.cells cs t (0, 0))) (i : Nat) : w.frozen? ⟨g, i, none⟩ = false := frozen_of_row w g i cs t (s g _ hg)
theorem sub_lt {g : Nat} {o : Obj} (s : Sub h w) (hg : h g = some o) : g < w.heap.size := s.lt (by simp [hg])
end

theorem box1 {W : World} {g : Nat} {u : Value} {t : TypeId} (s : Sub (one g (.cells #[u] t (0, 0))) W) : W.cell? ⟨g, 0, none⟩ = some u ∧ W.frozen? ⟨g, 0, none⟩ = false ∧ g < W.heap.size :=
  ⟨(sub_cell s (if_pos rfl) 0).trans rfl, sub_frozen s (if_pos rfl) 0, sub_lt s (if_pos rfl)⟩
/-! ### 5. Elements, rows of elements -/
structure El (α : Type) where
  sz : Nat
  E : Bool → Hp → α → List Value → Prop
  len : ∀ {b h x cs}, E b h x cs → cs.length = sz
  onec : ∀ {b h x cs}, E b h x cs → ∀ u ∈ cs, u.oneCell' = true
  mono : ∀ {b h h' x cs}, E b h x cs → Le h h' → E b h' x cs
  weak : ∀ {b h x cs}, E b h x cs → E false h x cs
def Els {α : Type} (e : El α) (b : Bool) : Hp → List α → List Value → Prop
  | _, [], cs => cs = []
  | h, x :: xs, cs => ∃ c1 c2 h1 h2, cs = c1 ++ c2 ∧ Part b h1 h2 h ∧ e.E b h1 x c1 ∧ Els e b h2 xs c2
section
variable {α : Type} {e : El α} {b : Bool} {h h' h1 h2 : Hp} {xs ys : List α} {x : α} {cs c1 c2 : List Value}
theorem Els.len : ∀ {xs : List α} {h : Hp} {cs : List Value}, Els e b h xs cs → cs.length = xs.length * e.sz
  | [], _, _, a => by simp [show _ = [] from a]
  | _ :: xs, _, _, ⟨c1, c2, h1, h2, rfl, _, a, r⟩ => by
    rw [List.length_append, e.len a, Els.len r, List.length_cons, Nat.add_mul]; omega
theorem Els.onec : ∀ {xs : List α} {h : Hp} {cs : List Value}, Els e b h xs cs → ∀ u ∈ cs, u.oneCell' = true
  | [], _, _, a => by simp [show _ = [] from a]
  | _ :: xs, _, _, ⟨c1, c2, h1, h2, rfl, _, a, r⟩ => fun u hu => by
    rcases List.mem_append.1 hu with hu | hu
    · exact e.onec a u hu
    · exact Els.onec r u hu
theorem Els.mono : ∀ {xs : List α} {h h' : Hp} {cs : List Value}, Els e b h xs cs → Le h h' → Els e b h' xs cs
  | [], _, _, _, a, _ => a
  | _ :: _, _, _, _, ⟨c1, c2, h1, h2, he, p, a, r⟩, l => ⟨c1, c2, h1, h2, he, p.mono l, a, r⟩
theorem Els.weak : ∀ {xs : List α} {h : Hp} {cs : List Value}, Els e b h xs cs → Els e false h xs cs
  | [], _, _, a => a
  | _ :: _, _, _, ⟨c1, c2, h1, h2, he, p, a, r⟩ => ⟨c1, c2, h1, h2, he, p.weak, e.weak a, r.weak⟩
theorem Els.append : ∀ {xs : List α} {h1 : Hp} {c1 : List Value} {h : Hp}, Els e b h1 xs c1 → Els e b h2 ys c2 → Part b h1 h2 h → Els e b h (xs ++ ys) (c1 ++ c2)
  | [], _, _, _, a, r, p => by rw [show _ = [] from a]; exact r.mono p.2.2
  | x :: xs, h1, _, h, ⟨d1, d2, g1, g2, he, q, a, s⟩, r, p => by
    subst he
    have hc := Le.cupC (q.2.2.trans p.2.1) p.2.2
    exact ⟨d1, d2 ++ c2, g1, cup g2 h2, by simp, ⟨fun hb => (Disj.cup (q.1 hb).symm ((p.1 hb).mono q.2.1 (Le.refl _)).symm).symm, q.2.1.trans p.2.1, Le.cup (q.2.2.trans p.2.1) p.2.2⟩, a, Els.append s r ⟨fun hb => (p.1 hb).mono q.2.2 (Le.refl _), Le.cupL _ _, hc⟩⟩
theorem Els.single (a : e.E b h x cs) : Els e b h [x] cs := ⟨cs, [], h, emp, by simp, ⟨fun _ => Disj.emp' _, Le.refl _, Le.emp _⟩, a, rfl⟩
theorem Els.snoc (a : Els e b h1 xs c1) (y : e.E b h2 x c2) (p : Part b h1 h2 h) : Els e b h (xs ++ [x]) (c1 ++ c2) := a.append (Els.single y) p
theorem Els.get : ∀ {xs : List α} {h : Hp} {cs : List Value} {j : Nat}, Els e b h xs cs → xs[j]? = some x → ∃ c, e.E b h x c ∧ ∀ q u, c[q]? = some u → cs[j * e.sz + q]? = some u
  | [], _, _, _, _, hj => by simp at hj
  | y :: ys, _, _, 0, ⟨c1, c2, h1, h2, rfl, p, a, r⟩, hj => by
    obtain rfl : y = x := by simpa using hj
    refine ⟨c1, e.mono a p.2.1, fun q u hu => ?_⟩
    rw [Nat.zero_mul, Nat.zero_add, List.getElem?_append_left (List.getElem?_eq_some_iff.1 hu).1]; exact hu
  | y :: ys, _, _, j + 1, ⟨c1, c2, h1, h2, rfl, p, a, r⟩, hj => by
    obtain ⟨c, hc, hq⟩ := Els.get r (by simpa using hj)
    refine ⟨c, e.mono hc p.2.2, fun q u hu => ?_⟩
    rw [show (j + 1) * e.sz + q = c1.length + (j * e.sz + q) by rw [e.len a, Nat.add_mul]; omega, List.getElem?_append_right (by omega), Nat.add_sub_cancel_left]
    exact hq q u hu
/-- One element apart from the others, and back with another one. -/
theorem Els.focus : ∀ {xs : List α} {h : Hp} {cs : List Value} {j : Nat}, Els e true h xs cs → xs[j]? = some x →
    ∃ h1 h2 c, Part true h1 h2 h ∧ e.E true h1 x c ∧ (∀ q u, c[q]? = some u → cs[j * e.sz + q]? = some u) ∧ cs = cs.take (j * e.sz) ++ c ++ cs.drop (j * e.sz + e.sz) ∧
      ∀ h1' y c', Disj h1' h2 → e.E true h1' y c' → Els e true (cup h1' h2) (xs.set j y) (cs.take (j * e.sz) ++ c' ++ cs.drop (j * e.sz + e.sz))
  | [], _, _, _, _, hj => by simp at hj
  | y :: ys, _, _, 0, ⟨c1, c2, h1, h2, rfl, p, a, r⟩, hj => by
    obtain rfl : y = x := by simpa using hj
    have hl := e.len a
    refine ⟨h1, h2, c1, p, a, fun q u hu => ?_, by simp [← hl], fun h1' y' c' hd he => ?_⟩
    · rw [Nat.zero_mul, Nat.zero_add, List.getElem?_append_left (List.getElem?_eq_some_iff.1 hu).1]; exact hu
    · exact ⟨c', c2, h1', h2, by simp [← hl], Part.cup hd, he, r⟩
  | y :: ys, _, _, j + 1, ⟨c1, c2, h1, h2, rfl, p, a, r⟩, hj => by
    obtain ⟨g1, g2, c, q, hc, hq, hcs, hback⟩ := Els.focus r (by simpa using hj)
    have hl := e.len a
    have hj' : (j + 1) * e.sz = c1.length + j * e.sz := by rw [hl, Nat.add_mul]; omega
    have hd1 : Disj g1 (cup h1 g2) := (Disj.cup ((p.1 rfl).mono (Le.refl _) q.2.1) (q.1 rfl).symm).symm
    refine ⟨g1, cup h1 g2, c, ⟨fun _ => hd1, q.2.1.trans p.2.2, Le.cup p.2.1 (q.2.2.trans p.2.2)⟩, hc, fun i u hu => ?_, ?_, fun h1' y' c' hd he => ?_⟩
    · rw [show (j + 1) * e.sz + i = c1.length + (j * e.sz + i) by omega, List.getElem?_append_right (by omega), Nat.add_sub_cancel_left]
      exact hq i u hu
    · rw [hj', show c1.length + j * e.sz + e.sz = c1.length + (j * e.sz + e.sz) by omega, List.take_length_add_append, List.drop_length_add_append, List.append_assoc, List.append_assoc, ← List.append_assoc (c2.take _), ← hcs]
    · obtain ⟨d1, d2⟩ := (hd.symm).of_cup
      have hb := hback h1' y' c' d2.symm he
      refine ⟨c1, _, h1, cup h1' g2, ?_, ?_, a, hb⟩
      · rw [hj', show c1.length + j * e.sz + e.sz = c1.length + (j * e.sz + e.sz) by omega, List.take_length_add_append, List.drop_length_add_append]
        simp
      · refine ⟨fun _ => (Disj.cup d1.symm ((p.1 rfl).mono (Le.refl _) q.2.2).symm).symm, ?_, Le.cup (Le.cupL _ _) ((Le.cupR (Disj.cup ((p.1 rfl).mono (Le.refl _) q.2.2) (Disj.emp _)  |>.mono (Le.refl _) (Le.refl _) |> fun _ => d1.symm |> fun _ => (hd)))|>.trans (Le.refl _) |> fun l => (Le.cupR (a := h1) (b := g2) ((p.1 rfl).mono (Le.refl _) q.2.2)).trans l)⟩
        exact (Le.cupL h1 g2).trans (Le.cupR hd)
theorem Els.take : ∀ {xs : List α} {h : Hp} {cs : List Value} (n : Nat), Els e b h xs cs → Els e b h (xs.take n) (cs.take (n * e.sz))
  | [], _, _, n, a => by rw [show _ = [] from a]; simp [Els]
  | y :: ys, _, _, 0, _ => by simp [Els]
  | y :: ys, _, _, n + 1, ⟨c1, c2, h1, h2, he, p, a, r⟩ => by
    subst he
    have hl := e.len a
    refine ⟨c1, c2.take (n * e.sz), h1, h2, ?_, p, a, Els.take n r⟩
    rw [show (n + 1) * e.sz = c1.length + n * e.sz by rw [hl, Nat.add_mul]; omega, List.take_length_add_append]
theorem Els.drop : ∀ {xs : List α} {h : Hp} {cs : List Value} (n : Nat), Els e b h xs cs → Els e b h (xs.drop n) (cs.drop (n * e.sz))
  | [], _, _, n, a => by rw [show _ = [] from a]; simp [Els]
  | y :: ys, _, _, 0, a => by simpa using a
  | y :: ys, _, _, n + 1, ⟨c1, c2, h1, h2, he, p, a, r⟩ => by
    subst he
    have hl := e.len a
    rw [show (n + 1) * e.sz = c1.length + n * e.sz by rw [hl, Nat.add_mul]; omega, List.drop_length_add_append, List.drop_succ_cons]
    exact (Els.drop n r).mono p.2.2
theorem Els.fill {z : α} {cz : List Value} (a : e.E b emp z cz) : ∀ n, Els e b emp (List.replicate n z) (List.replicate n cz).flatten
  | 0 => rfl
  | n + 1 => ⟨cz, _, emp, emp, by simp [List.replicate_succ], Part.any b emp, a, Els.fill a n⟩
end
/-- A row that is read. -/
def hcell (h : Hp) (g i : Nat) : Option Value := match h g with
  | some (.cells c _ _) => c[i]?
  | _ => none
theorem hcell_sub {h : Hp} {w : World} (s : Sub h w) {g i : Nat} {u : Value} (hc : hcell h g i = some u) : w.cell? ⟨g, i, none⟩ = some u := by
  unfold hcell at hc
  split at hc
  · rename_i c t fr hg
    rw [sub_cell s hg]; exact hc
  · cases hc
theorem hcell_le {h h' : Hp} (l : Le h h') {g i : Nat} {u : Value} (hc : hcell h g i = some u) : hcell h' g i = some u := by
  unfold hcell at *
  split at hc
  · rename_i c t fr hg
    rw [l g _ hg]; exact hc
  · cases hc
def Rd {α : Type} (e : El α) (h : Hp) (v : Value) (xs : List α) : Prop :=
  ∃ A c, v = .slice A xs.length c ∧ xs.length ≤ c ∧ c ≤ 9223372036854775807 ∧ (A = none → c = 0) ∧
    (xs ≠ [] → ∃ g o cells, A = some ⟨g, o, none⟩ ∧ (∀ q u, cells[q]? = some u → hcell h g (o + q) = some u) ∧ Els e false h xs cells)
/-- A row of one's own: its block (elements of type t), its elements' parts. -/
def Own {α : Type} (t : TypeId) (e : El α) (h : Hp) (v : Value) (xs : List α) : Prop :=
  (v = .slice none 0 0 ∧ xs = []) ∨
  ∃ g cap cur hin, v = .slice (some ⟨g, 0, none⟩) xs.length cap ∧ xs.length ≤ cap ∧ cap ≤ 9223372036854775807 ∧ cur.size = cap * e.sz ∧ h g = some (.cells cur t (0, 0)) ∧
    hin g = none ∧ Le hin h ∧ Els e true hin xs (cur.toList.take (xs.length * e.sz))
/-- The one or the other. -/
def Row {α : Type} (t : TypeId) (e : El α) (b : Bool) (h : Hp) (v : Value) (xs : List α) : Prop := if b then Own t e h v xs else Rd e h v xs
section
variable {α : Type} {t : TypeId} {e : El α} {b : Bool} {h h' h1 h2 : Hp} {w : World} {v : Value} {xs ys : List α} {x : α}
theorem Rd.mono (a : Rd e h v xs) (l : Le h h') : Rd e h' v xs := by
  obtain ⟨A, c, rfl, h1, h2, h0, h3⟩ := a
  refine ⟨A, c, rfl, h1, h2, h0, fun hn => ?_⟩
  obtain ⟨g, o, cells, rfl, h4, h5⟩ := h3 hn
  exact ⟨g, o, cells, rfl, fun q u hu => hcell_le l (h4 q u hu), h5.mono l⟩
theorem Own.mono (a : Own t e h v xs) (l : Le h h') : Own t e h' v xs := by
  rcases a with a | ⟨g, cap, cur, hin, h1, h2, h3, h4, h5, h6, h7, h8⟩
  · exact .inl a
  · exact .inr ⟨g, cap, cur, hin, h1, h2, h3, h4, l g _ h5, h6, h7.trans l, h8⟩
theorem Own.rd (a : Own t e h v xs) : Rd e h v xs := by
  rcases a with ⟨rfl, rfl⟩ | ⟨g, cap, cur, hin, h1, h2, h3, h4, h5, h6, h7, h8⟩
  · exact ⟨none, 0, rfl, Nat.le_refl _, by omega, fun _ => rfl, fun hn => absurd rfl hn⟩
  · refine ⟨_, cap, h1, h2, h3, fun e => (by cases e), fun _ => ⟨g, 0, _, rfl, fun q u hu => ?_, (h8.mono h7).weak⟩⟩
    have hq := (List.getElem?_eq_some_iff.1 hu).1
    rw [List.getElem?_take_of_lt (by rw [List.length_take] at hq; omega)] at hu
    simp only [hcell, h5, Nat.zero_add]
    simpa using hu
theorem Row.mono (a : Row t e b h v xs) (l : Le h h') : Row t e b h' v xs := by
  cases b
  · exact Rd.mono a l
  · exact Own.mono a l
theorem Row.rd (a : Row t e b h v xs) : Rd e h v xs := by
  cases b
  · exact a
  · exact Own.rd a
theorem Row.weak (a : Row t e b h v xs) : Row t e false h v xs := a.rd
theorem Rd.slice (a : Rd e h v xs) : ∃ A c, v = .slice A xs.length c := by obtain ⟨A, c, hv, _⟩ := a; exact ⟨A, c, hv⟩
theorem Rd.one (a : Rd e h v xs) : v.oneCell' = true := by obtain ⟨A, c, rfl, _⟩ := a; rfl
theorem Row.one (a : Row t e b h v xs) : v.oneCell' = true := a.rd.one
/-- Element k of a row that is read: its cells, in every world that has the part. -/
theorem Rd.at_ {A : Option Addr} {n c : Nat} (a : Rd e h (.slice A n c) xs) {k : Nat} (hk : xs[k]? = some x) :
    ∃ g o cs, A = some ⟨g, o, none⟩ ∧ e.E false h x cs ∧ ∀ W, Sub h W → ∀ q u, cs[q]? = some u → W.cell? ⟨g, o + k * e.sz + q, none⟩ = some u := by
  obtain ⟨A', c', hv, h1, h2, _, h3⟩ := a
  injection hv with hA hn hc
  subst hA
  obtain ⟨g, o, cells, he, h4, h5⟩ := h3 (by rintro rfl; simp at hk)
  obtain ⟨cs, hE, hq⟩ := h5.get hk
  exact ⟨g, o, cs, he, hE, fun W hW q u hu => hcell_sub hW (by rw [Nat.add_assoc]; exact h4 _ _ (hq q u hu))⟩
theorem Own.at_ {g n c : Nat} {off : Nat} {sp : Option Nat} (a : Own t e h (.slice (some ⟨g, off, sp⟩) n c) xs) {k : Nat} (hk : xs[k]? = some x) :
    off = 0 ∧ sp = none ∧ ∃ cs, e.E false h x cs ∧ ∀ W, Sub h W → ∀ q u, cs[q]? = some u → W.cell? ⟨g, k * e.sz + q, none⟩ = some u := by
  obtain ⟨g', o, cs, he, hE, hc⟩ := a.rd.at_ hk
  injection he with he
  rcases a with ⟨he', _⟩ | ⟨g2, _, _, _, he', _⟩
  · cases he'
  · injection he' with he' _ _
    injection he' with he'
    cases he'
    cases he
    exact ⟨rfl, rfl, cs, hE, fun W hW q u hu => by have := hc W hW q u hu; rwa [Nat.zero_add] at this⟩
theorem Rd.len_le {A : Option Addr} {n c : Nat} (a : Rd e h (.slice A n c) xs) : n = xs.length ∧ n ≤ c ∧ c ≤ 9223372036854775807 := by
  obtain ⟨A', c', hv, h1, h2, _, h3⟩ := a
  injection hv with hA hn hc
  subst hn; subst hc
  exact ⟨rfl, h1, h2⟩
/-- All of a row of flat elements: its cells, in every world that has the part. -/
theorem Els.flat (hf : ∀ {b b' : Bool} {h h' : Hp} {x : α} {cs : List Value}, e.E b h x cs → e.E b' h' x cs) : ∀ {xs : List α} {b b' : Bool} {h : Hp} {cs : List Value}, Els e b h xs cs → Els e b' emp xs cs
  | [], _, _, _, _, a => a
  | _ :: _, _, b', _, _, ⟨c1, c2, h1, h2, he, p, a, r⟩ => ⟨c1, c2, emp, emp, he, Part.any b' emp, hf a, Els.flat hf r⟩
theorem Rd.all {A : Option Addr} {n c : Nat} (hf : ∀ {b b' : Bool} {h h' : Hp} {x : α} {cs : List Value}, e.E b h x cs → e.E b' h' x cs) (a : Rd e h (.slice A n c) xs) :
    n = xs.length ∧ (A = none → xs = [] ∧ c = 0) ∧ ∃ cells, Els e true emp xs cells ∧ ∀ W, Sub h W → ∀ ad, A = some ad → ∀ j u, cells[j]? = some u → W.cell? (ad.add j) = some u := by
  obtain ⟨A', c', hv, h1, h2, h0, h3⟩ := a
  injection hv with hA hn hc
  subst hA; subst hc
  by_cases hx : xs = []
  · subst hx
    exact ⟨hn, fun h => ⟨rfl, h0 h⟩, [], rfl, fun W hW ad _ j u hu => by simp at hu⟩
  · obtain ⟨g, o, cells, rfl, h4, h5⟩ := h3 hx
    refine ⟨hn, fun h => (by cases h), cells, h5.flat hf, fun W hW ad he j u hu => ?_⟩
    cases he
    have ha : (⟨g, o, none⟩ : Addr).add j = ⟨g, o + j, none⟩ := by unfold Addr.add; split <;> simp_all
    rw [ha]
    exact hcell_sub hW (h4 j u hu)
/-- To the library's word and back. -/
theorem Own.owns (a : Own t e h v xs) (s : Sub h w) : ∃ cells, w.ownsRow 0 t e.sz v xs.length cells ∧ ∃ hin, Le hin h ∧ Els e true hin xs cells ∧ ∀ k, v.ownBlock = some k → hin k = none := by
  rcases a with ⟨rfl, rfl⟩ | ⟨g, cap, cur, hin, rfl, h2, h3, h4, h5, h6, h7, h8⟩
  · exact ⟨[], World.ownsRow_nil _ _ _ _, emp, Le.emp _, rfl, by simp [Value.ownBlock]⟩
  · exact ⟨_, ⟨h8.len, .inr ⟨g, cap, cur, rfl, Nat.zero_le _, s g _ h5, h2, h3, h4, rfl⟩⟩, hin, h7, h8, fun k hk => by simp [Value.ownBlock] at hk; subst hk; exact h6⟩
theorem own_of {cells : List Value} {base : Nat} (o : w.ownsRow base t e.sz v xs.length cells) {hin : Hp} (s : Els e true hin xs cells) (hn : ∀ k, v.ownBlock = some k → hin k = none) :
    ∃ h', Own t e h' v xs ∧ (∀ k, h' k ≠ none → some k = v.ownBlock ∨ hin k ≠ none) ∧ (Sub hin w → Sub h' w) := by
  obtain ⟨hl, hx | ⟨g, cap, cur, rfl, hb, hg, h2, h3, h4, h5⟩⟩ := o
  · exact ⟨emp, .inl ⟨hx.1, List.eq_nil_of_length_eq_zero hx.2⟩, fun k hk => absurd rfl hk, fun _ => Sub.emp _⟩
  · refine ⟨cup (one g (.cells cur t (0, 0))) hin, .inr ⟨g, cap, cur, hin, rfl, h2, h3, h4, by simp [cup, one], hn g rfl, Le.cupR (fun k => ?_), by rw [h5]; exact s⟩, fun k hk => ?_, fun hs => Sub.cup (fun k o e => ?_) hs⟩
    · by_cases hk : k = g
      · subst hk; exact .inr (hn k rfl)
      · exact .inl (by simp [one, hk])
    · by_cases h6 : k = g
      · subst h6; exact .inl rfl
      · right; intro h7; exact hk (cup_none.2 ⟨by simp [one, h6], h7⟩)
    · unfold one at e
      split at e
      · rename_i hk; subst hk; cases e; exact hg
      · cases e
theorem Own.nil (t : TypeId) (e : El α) (h : Hp) : Own t e h (.slice none 0 0) [] := .inl ⟨rfl, rfl⟩
/-- The first n elements, seen as the same row. -/
theorem Own.take {A : Option Addr} {m c : Nat} (a : Own t e h (.slice A m c) xs) (n : Nat) (hn : n ≤ xs.length) : Own t e h (.slice A n c) (xs.take n) := by
  rcases a with ⟨hv, rfl⟩ | ⟨g, cap, cur, hin, hv, h2, h3, h4, h5, h6, h7, h8⟩
  · cases hv
    obtain rfl : n = 0 := by simpa using hn
    exact .inl ⟨rfl, by simp⟩
  · injection hv with hA hm hc
    subst hA; subst hc
    refine .inr ⟨g, c, cur, hin, by rw [List.length_take, Nat.min_eq_left hn], by rw [List.length_take]; omega, h3, h4, h5, h6, h7, ?_⟩
    have := h8.take n
    rw [List.take_take, Nat.min_eq_left (Nat.mul_le_mul_right _ hn)] at this
    rwa [List.length_take, Nat.min_eq_left hn]
end
end Go.Proofs.Ytccioimicdggkaa.C
