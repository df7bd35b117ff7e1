/- What a row's reading of an argument says of the argument's cells, kind by kind: numbers, texts, slices and structs inside each other. No condition. -/
import Derived.Test.YtdhiomoomobhfaaDoorWWords
import Derived.Deep.Slices
import Derived.Deep.Fields
import Derived.ChangeSame
import Derived.WideShapes
namespace Go.Proofs.YtdhiomoomobhfaaDoor.M
open Go.RowKit Go.ChangeShapes Go.WideShapes Go.Deep Go.Proofs.YtdhiomoomobhfaaDoorW.PrintWords

def Tie (P : Program) (t : TypeId) {α : Type} (d : Kd α) (ok : α → Prop) : Prop :=
  ∀ {H : Type} (enc : TypeId × Value → H) (w : World) (base : Nat) (spare : Nat → Bool) (held : Bool) (fuel : Nat) (cs : List Value) (x : DataW H × List MemPlace),
    DataW.trod enc P w base spare held fuel t cs = some x → ∃ v, d.K w v cs ∧ ok v

theorem tie_int {P : Program} {t : TypeId} {k : IntKind} (ht : P.underlying t = some (.int k)) : Tie P t (Kd.int k) (fun n => (Lit.int k n).wf = true) := by
  intro H enc w base spare held fuel cs x h
  obtain ⟨n, rfl, _, hw⟩ := DataW.trod_int ht h
  exact ⟨n, rfl, hw⟩
theorem tie_bool {P : Program} {t : TypeId} (ht : P.underlying t = some .bool) : Tie P t Kd.bool (fun _ => True) := by
  intro H enc w base spare held fuel cs x h
  obtain ⟨n, rfl, _⟩ := DataW.trod_bool ht h
  exact ⟨n, rfl, trivial⟩
theorem tie_string {P : Program} {t : TypeId} (ht : P.underlying t = some .string) : Tie P t Kd.string (fun s => s.size ≤ maxLen) := by
  intro H enc w base spare held fuel cs x h
  obtain ⟨n, rfl, _, hw⟩ := DataW.trod_string ht h
  exact ⟨n, rfl, hw⟩

theorem tie_slice {P : Program} {t e : TypeId} {α : Type} {d : Kd α} {ok : α → Prop} (ht : P.underlying t = some (.slice e)) (he : Tie P e d ok) (hs : P.cellsOf e = d.sz) (z : α) :
    Tie P t (Kd.slice e d) (fun xs => xs.length ≤ maxLen ∧ ∀ x ∈ xs, ok x) := by
  intro H enc w base spare held fuel cs x h
  rcases open_slice ht h with ⟨rfl, _⟩ | ⟨a, len, cap, m, n, D, Pl, rfl, _, hl, hm, hmm, _, hi⟩
  · refine ⟨[], ⟨none, 0, rfl, Nat.le_refl _, rfl, by simp, fun h => absurd h (by simp)⟩, by simp, by simp⟩
  · have hlm : len ≤ m := by rw [hmm]; split <;> omega
    have hel : ∀ i, i < len → ∃ v, (∃ cs', cs'.length = d.sz ∧ d.K w v cs' ∧ ∀ j u, cs'[j]? = some u → w.cell? (a.add (i * d.sz + j)) = some u) ∧ ok v := by
      intro i hlt
      obtain ⟨cs', hc, ht'⟩ := hi i (by omega)
      obtain ⟨v, hK, hok⟩ := he enc w base spare held n cs' _ ht'
      obtain ⟨_, hcl, hcell⟩ := World.cells?_some hc
      rw [hs] at hcl hcell
      refine ⟨v, ⟨cs', hcl, hK, fun j u hj => ?_⟩, hok⟩
      have hjl : j < cs'.length := (List.getElem?_eq_some_iff.1 hj).1
      rw [← Go.Deep.add_add, hcell j (by omega), hj]
    haveI : Inhabited α := ⟨z⟩
    obtain ⟨f, hf⟩ := choose_lt hel
    have hlen : ((List.range len).map f).length = len := by simp
    refine ⟨(List.range len).map f, ⟨some a, cap, by rw [hlen], by rw [hlen]; exact hl, ?_⟩, by rw [hlen]; omega, ?_⟩
    · rw [hlen]
      refine ⟨hlen, by unfold maxLen at hm; omega, fun _ => ⟨a, rfl, fun j p hj => ?_⟩⟩
      have hjl : j < len := by have := (List.getElem?_eq_some_iff.1 hj).1; omega
      rw [List.getElem?_map, List.getElem?_range hjl] at hj
      obtain rfl := Option.some.inj hj
      exact (hf j hjl).1
    · intro x hx
      obtain ⟨i, hi', rfl⟩ := List.mem_map.1 hx
      exact (hf i (List.mem_range.1 hi')).2

/-- a struct's fields from an offset on -/
def TieF (P : Program) (fs : List Field) (off : Nat) {α : Type} (d : Kd α) (ok : α → Prop) : Prop :=
  ∀ {H : Type} (enc : TypeId × Value → H) (w : World) (base : Nat) (spare : Nat → Bool) (held : Bool) (n : Nat) (cs : List Value),
    (∀ f ∈ fs, ∃ y, DataW.trod enc P w base spare held n f.type ((cs.drop f.offset).take (P.cellsOf f.type)) = some y) → cs.length = off + d.sz → ∃ v, d.K w v (cs.drop off) ∧ ok v

theorem tieF_one {P : Program} {f : Field} {off : Nat} {α : Type} {d : Kd α} {ok : α → Prop} (h : Tie P f.type d ok) (ho : f.offset = off) (hs : P.cellsOf f.type = d.sz) : TieF P [f] off d ok := by
  intro H enc w base spare held n cs hf hl
  obtain ⟨y, hy⟩ := hf f (by simp)
  rw [ho, hs, List.take_of_length_le (by rw [List.length_drop]; omega)] at hy
  exact h enc w base spare held n _ _ hy

theorem tieF_cons {P : Program} {f : Field} {fs : List Field} {off : Nat} {α β : Type} {a : Kd α} {b : Kd β} {ok : α → Prop} {ok' : β → Prop} (h : Tie P f.type a ok) (ho : f.offset = off) (hs : P.cellsOf f.type = a.sz)
    (hr : TieF P fs (off + a.sz) b ok') : TieF P (f :: fs) off (Kd.pair a b) (fun x => ok x.1 ∧ ok' x.2) := by
  intro H enc w base spare held n cs hf hl
  have hsz : (Kd.pair a b).sz = a.sz + b.sz := rfl
  rw [hsz] at hl
  obtain ⟨y, hy⟩ := hf f (by simp)
  rw [ho, hs] at hy
  obtain ⟨v, hv, hok⟩ := h enc w base spare held n _ _ hy
  obtain ⟨v', hv', hok'⟩ := hr enc w base spare held n cs (fun g hg => hf g (by simp [hg])) (by omega)
  refine ⟨(v, v'), ⟨_, _, ?_, hv, hv'⟩, hok, hok'⟩
  rw [← List.drop_drop, List.take_append_drop]

theorem tie_struct {P : Program} {t : TypeId} {fs : Array Field} {α : Type} {d : Kd α} {ok : α → Prop} (ht : P.underlying t = some (.struct fs)) (hc : P.cellsOf t = d.sz) (hf : TieF P fs.toList 0 d ok) : Tie P t d ok := by
  intro H enc w base spare held fuel cs x h
  obtain ⟨xs, n, _, _, hl, hxl, hg⟩ := DataW.trod_struct ht h
  have := hf enc w base spare held n cs (fun f hm => by
    obtain ⟨i, hi, he⟩ := List.mem_iff_getElem.1 hm
    have hi' : i < fs.size := by simpa using hi
    have e : fs[i]? = some f := by rw [Array.getElem?_eq_getElem hi']; simpa using he
    refine ⟨xs[i]'(by omega), ?_⟩
    rw [hg i f e, List.getElem?_eq_getElem]) (by omega)
  exact this

theorem tie_iso {P : Program} {t : TypeId} {α β : Type} {d : Kd α} {ok : α → Prop} (h : Tie P t d ok) (f : β → α) (g : α → β) (hg : ∀ v, f (g v) = v) : Tie P t (Kd.iso d f) (fun x => ok (f x)) := by
  intro H enc w base spare held fuel cs x hx
  obtain ⟨v, hv, hok⟩ := h enc w base spare held fuel cs x hx
  refine ⟨g v, ?_, ?_⟩
  · show d.K w (f (g v)) cs
    rw [hg]; exact hv
  · show ok (f (g v))
    rw [hg]; exact hok
end Go.Proofs.YtdhiomoomobhfaaDoor.M
