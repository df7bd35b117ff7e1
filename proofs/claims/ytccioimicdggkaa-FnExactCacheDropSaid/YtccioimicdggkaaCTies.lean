/- What a row's reading of an argument says of the argument's cells: numbers, texts, slices and structs inside each other. No condition. -/
import Derived.Test.YtccioimicdggkaaCType
import Derived.Deep.Slices
import Derived.Deep.Fields
import Derived.ChangeSame
import Derived.WideShapes
namespace Go.Proofs.Ytccioimicdggkaa.C
open Go.RowKit Go.ChangeShapes Go.WideShapes Go.Deep
set_option linter.unusedVariables false
set_option linter.unusedSimpArgs false
theorem hcell_of {w : World} {g i : Nat} {u : Value} (h : w.cell? ⟨g, i, none⟩ = some u) : hcell (hpOf w) g i = some u := by
  unfold World.cell? at h
  unfold hcell hpOf
  cases hg : w.heap[g]? with
  | none => simp [hg] at h
  | some o => cases o <;> simp_all
theorem Els.mk {α : Type} {e : El α} {h : Hp} {g : Nat} : ∀ (xs : List α) (o : Nat), (∀ (j : Nat) (x : α), xs[j]? = some x → ∃ c, e.E false h x c ∧ ∀ (q : Nat) (u : Value), c[q]? = some u → hcell h g (o + j * e.sz + q) = some u) →
    ∃ cells, Els e false h xs cells ∧ ∀ (q : Nat) (u : Value), cells[q]? = some u → hcell h g (o + q) = some u
  | [], o, _ => ⟨[], rfl, fun q u hu => by simp at hu⟩
  | x :: xs, o, H => by
    obtain ⟨c, hc, hq⟩ := H 0 x rfl
    obtain ⟨cells, hE, hcell⟩ := Els.mk xs (o + e.sz) (fun j y hy => by
      obtain ⟨c', hc', hq'⟩ := H (j + 1) y (by simpa using hy)
      refine ⟨c', hc', fun q u hu => ?_⟩
      have := hq' q u hu
      rwa [Nat.add_mul, Nat.one_mul, show o + (j * e.sz + e.sz) + q = o + e.sz + j * e.sz + q by omega] at this)
    have hl := e.len hc
    refine ⟨c ++ cells, ⟨c, cells, h, h, rfl, ⟨fun e => (by cases e), Le.refl _, Le.refl _⟩, hc, hE⟩, fun q u hu => ?_⟩
    by_cases hlt : q < c.length
    · rw [List.getElem?_append_left hlt] at hu
      have := hq q u hu
      rwa [Nat.zero_mul, Nat.add_zero] at this
    · rw [List.getElem?_append_right (by omega)] at hu
      have := hcell _ u hu
      rwa [show o + e.sz + (q - c.length) = o + q by omega] at this
def Tie (P : Program) (t : TypeId) {α : Type} (d : El α) (ok : α → Prop) : Prop :=
  ∀ {H : Type} (enc : TypeId × Value → H) (w : World) (base : Nat) (spare : Nat → Bool) (held : Bool) (fuel : Nat) (cs : List Value) (x : DataW H × List MemPlace),
    DataW.trod enc P w base spare held fuel t cs = some x → ∃ v, d.E false (hpOf w) v cs ∧ ok v
theorem tie_int {P : Program} {t : TypeId} {k : IntKind} (ht : P.underlying t = some (.int k)) : Tie P t (El.int k) (fun n => (Lit.int k n).wf = true) := by
  intro H enc w base spare held fuel cs x h
  obtain ⟨n, rfl, _, hw⟩ := DataW.trod_int ht h
  exact ⟨n, rfl, hw⟩
theorem tie_string {P : Program} {t : TypeId} (ht : P.underlying t = some .string) : Tie P t El.str (fun s => s.size ≤ maxLen) := by
  intro H enc w base spare held fuel cs x h
  obtain ⟨n, rfl, _, hw⟩ := DataW.trod_string ht h
  exact ⟨n, rfl, hw⟩
theorem tie_slice {P : Program} {t e te : TypeId} {α : Type} {d : El α} {ok : α → Prop} (ht : P.underlying t = some (.slice e)) (he : Tie P e d ok) (hs : P.cellsOf e = d.sz) (h0 : 0 < d.sz) (z : α) :
    Tie P t (El.row te d) (fun xs => xs.length ≤ maxLen ∧ ∀ x ∈ xs, ok x) := by
  intro H enc w base spare held fuel cs x h
  rcases open_slice ht h with ⟨rfl, _⟩ | ⟨a, len, cap, m, n, D, Pl, rfl, _, hl, hm, hmm, _, hi⟩
  · exact ⟨[], ⟨_, rfl, none, 0, rfl, Nat.le_refl _, by omega, fun _ => rfl, fun hn => absurd rfl hn⟩, by simp, by simp⟩
  · have hlm : len ≤ m := by rw [hmm]; split <;> omega
    have hel : ∀ i, i < len → ∃ v, (∃ cs', cs'.length = d.sz ∧ d.E false (hpOf w) v cs' ∧ ∀ j u, cs'[j]? = some u → w.cell? (a.add (i * d.sz + j)) = some u) ∧ ok v := by
      intro i hlt
      obtain ⟨cs', hc, ht'⟩ := hi i (by omega)
      obtain ⟨v, hK, hok⟩ := he enc w base spare held n cs' _ ht'
      obtain ⟨_, hcl, hcell⟩ := World.cells?_some hc
      rw [hs] at hcl hcell
      refine ⟨v, ⟨cs', hcl, hK, fun j u hj => ?_⟩, hok⟩
      have hjl : j < cs'.length := (List.getElem?_eq_some_iff.1 hj).1
      rw [← Go.Deep.add_add, hcell j (by omega), hj]
    haveI : Inhabited α := ⟨z⟩
    obtain ⟨f, hf⟩ := choose_lt hel
    have hlen : ((List.range len).map f).length = len := by simp
    have hm' : len ≤ 9223372036854775807 := by unfold maxLen at hm; omega
    refine ⟨(List.range len).map f, ⟨_, rfl, ?_⟩, by rw [hlen]; unfold maxLen; omega, ?_⟩
    · show Rd d (hpOf w) (.slice (some a) len cap) _
      refine ⟨some a, cap, by rw [hlen], by rw [hlen]; exact hl, by unfold maxLen at hm; omega, fun e => (by cases e), fun hn => ?_⟩
      have hp : 0 < len := by
        rcases Nat.eq_zero_or_pos len with h1 | h1
        · subst h1; exact absurd rfl hn
        · exact h1
      obtain ⟨g, o, sp⟩ := a
      have hsp : sp = none := by
        obtain ⟨⟨cs', hcl, _, hcell⟩, _⟩ := hf 0 hp
        have h1 := hcell 0 _ (List.getElem?_eq_getElem (by omega))
        cases sp with
        | none => rfl
        | some q =>
          simp only [Nat.zero_mul, Nat.zero_add, Addr.add, if_true] at h1
          unfold World.cell? at h1
          split at h1
          · simp at h1
          · cases h1
      subst hsp
      have ha : ∀ n, (⟨g, o, none⟩ : Addr).add n = ⟨g, o + n, none⟩ := fun n => by unfold Addr.add; split <;> simp_all
      obtain ⟨cells, hE, hc⟩ := Els.mk (e := d) (h := hpOf w) (g := g) ((List.range len).map f) o (fun j y hy => by
        have hjl : j < len := by have := (List.getElem?_eq_some_iff.1 hy).1; simpa using this
        rw [List.getElem?_map, List.getElem?_range hjl] at hy
        obtain rfl := Option.some.inj hy
        obtain ⟨⟨cs', hcl, hK, hcell⟩, _⟩ := hf j hjl
        refine ⟨cs', hK, fun q u hu => ?_⟩
        have h1 := hcell q u hu
        rw [ha] at h1
        rw [Nat.add_assoc]
        exact hcell_of h1)
      exact ⟨g, o, cells, rfl, hc, hE⟩
    · intro x hx
      obtain ⟨i, hi', rfl⟩ := List.mem_map.1 hx
      exact (hf i (List.mem_range.1 hi')).2
/-- a struct's fields from an offset on -/
def TieF (P : Program) (fs : List Field) (off : Nat) {α : Type} (d : El α) (ok : α → Prop) : Prop :=
  ∀ {H : Type} (enc : TypeId × Value → H) (w : World) (base : Nat) (spare : Nat → Bool) (held : Bool) (n : Nat) (cs : List Value),
    (∀ f ∈ fs, ∃ y, DataW.trod enc P w base spare held n f.type ((cs.drop f.offset).take (P.cellsOf f.type)) = some y) → cs.length = off + d.sz → ∃ v, d.E false (hpOf w) v (cs.drop off) ∧ ok v

theorem tieF_one {P : Program} {f : Field} {off : Nat} {α : Type} {d : El α} {ok : α → Prop} (h : Tie P f.type d ok) (ho : f.offset = off) (hs : P.cellsOf f.type = d.sz) : TieF P [f] off d ok := by
  intro H enc w base spare held n cs hf hl
  obtain ⟨y, hy⟩ := hf f (by simp)
  rw [ho, hs, List.take_of_length_le (by rw [List.length_drop]; omega)] at hy
  exact h enc w base spare held n _ _ hy

theorem tieF_cons {P : Program} {f : Field} {fs : List Field} {off : Nat} {α β : Type} {a : El α} {b : El β} {ok : α → Prop} {ok' : β → Prop} (h : Tie P f.type a ok) (ho : f.offset = off) (hs : P.cellsOf f.type = a.sz)
    (hr : TieF P fs (off + a.sz) b ok') : TieF P (f :: fs) off (El.pair a b) (fun x => ok x.1 ∧ ok' x.2) := by
  intro H enc w base spare held n cs hf hl
  have hsz : (El.pair a b).sz = a.sz + b.sz := rfl
  rw [hsz] at hl
  obtain ⟨y, hy⟩ := hf f (by simp)
  rw [ho, hs] at hy
  obtain ⟨v, hv, hok⟩ := h enc w base spare held n _ _ hy
  obtain ⟨v', hv', hok'⟩ := hr enc w base spare held n cs (fun g hg => hf g (by simp [hg])) (by omega)
  refine ⟨(v, v'), ⟨_, _, hpOf w, hpOf w, ?_, ⟨fun e => (by cases e), Le.refl _, Le.refl _⟩, hv, hv'⟩, hok, hok'⟩
  rw [← List.drop_drop, List.take_append_drop]

theorem tie_struct {P : Program} {t : TypeId} {fs : Array Field} {α : Type} {d : El α} {ok : α → Prop} (ht : P.underlying t = some (.struct fs)) (hc : P.cellsOf t = d.sz) (hf : TieF P fs.toList 0 d ok) : Tie P t d ok := by
  intro H enc w base spare held fuel cs x h
  obtain ⟨xs, n, _, _, hl, hxl, hg⟩ := DataW.trod_struct ht h
  have := hf enc w base spare held n cs (fun f hm => by
    obtain ⟨i, hi, he⟩ := List.mem_iff_getElem.1 hm
    have hi' : i < fs.size := by simpa using hi
    have e : fs[i]? = some f := by rw [Array.getElem?_eq_getElem hi']; simpa using he
    refine ⟨xs[i]'(by omega), ?_⟩
    rw [hg i f e, List.getElem?_eq_getElem]) (by omega)
  exact this

theorem tie_iso {P : Program} {t : TypeId} {α β : Type} {d : El α} {ok : α → Prop} (h : Tie P t d ok) (f : β → α) (g : α → β) (hg : ∀ v, f (g v) = v) : Tie P t (El.iso d f) (fun x => ok (f x)) := by
  intro H enc w base spare held fuel cs x hx
  obtain ⟨v, hv, hok⟩ := h enc w base spare held fuel cs x hx
  refine ⟨g v, ?_, ?_⟩
  · show d.E false (hpOf w) (f (g v)) cs
    rw [hg]; exact hv
  · show ok (f (g v))
    rw [hg]; exact hok
theorem tie_imp {P : Program} {t : TypeId} {α : Type} {d : El α} {ok ok' : α → Prop} (h : Tie P t d ok) (hi : ∀ v, ok v → ok' v) : Tie P t d ok' := by
  intro H enc w base spare held fuel cs x hx
  obtain ⟨v, hv, hok⟩ := h enc w base spare held fuel cs x hx
  exact ⟨v, hv, hi v hok⟩
theorem max_le {n : Nat} (h : n ≤ maxLen) : n ≤ 9223372036854775807 := by unfold maxLen at h; omega
end Go.Proofs.Ytccioimicdggkaa.C
