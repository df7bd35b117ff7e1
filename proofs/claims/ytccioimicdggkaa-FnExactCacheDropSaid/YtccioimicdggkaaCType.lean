/- Kinds of elements: numbers, texts, one behind the other, rows. -/
import Derived.Test.YtccioimicdggkaaCBase
namespace Go.Proofs.Ytccioimicdggkaa.C
open Go.RowKit
set_option linter.unusedVariables false
set_option linter.unusedSimpArgs false
def El.int (k : IntKind) : El Int where
  sz := 1
  E := fun _ _ x cs => cs = [.int k x]
  len := fun h => by rw [h]; rfl
  onec := fun h => by rw [h]; simp [Value.oneCell']
  mono := fun h _ => h
  weak := fun h => h
def El.bool : El Bool where
  sz := 1
  E := fun _ _ x cs => cs = [.bool x]
  len := fun h => by rw [h]; rfl
  onec := fun h => by rw [h]; simp [Value.oneCell']
  mono := fun h _ => h
  weak := fun h => h
def El.str : El ByteArray where
  sz := 1
  E := fun _ _ x cs => cs = [.string x]
  len := fun h => by rw [h]; rfl
  onec := fun h => by rw [h]; simp [Value.oneCell']
  mono := fun h _ => h
  weak := fun h => h
def El.pair {α β : Type} (a : El α) (d : El β) : El (α × β) where
  sz := a.sz + d.sz
  E := fun b h x cs => ∃ c1 c2 h1 h2, cs = c1 ++ c2 ∧ Part b h1 h2 h ∧ a.E b h1 x.1 c1 ∧ d.E b h2 x.2 c2
  len := fun ⟨_, _, _, _, he, _, h1, h2⟩ => by rw [he, List.length_append, a.len h1, d.len h2]
  onec := fun ⟨_, _, _, _, he, _, h1, h2⟩ u hu => by
    rw [he] at hu
    rcases List.mem_append.1 hu with hu | hu
    · exact a.onec h1 u hu
    · exact d.onec h2 u hu
  mono := fun ⟨c1, c2, h1, h2, he, p, ha, hd⟩ l => ⟨c1, c2, h1, h2, he, p.mono l, ha, hd⟩
  weak := fun ⟨c1, c2, h1, h2, he, p, ha, hd⟩ => ⟨c1, c2, h1, h2, he, p.weak, a.weak ha, d.weak hd⟩
def El.iso {α β : Type} (a : El α) (f : β → α) : El β where
  sz := a.sz
  E := fun b h x cs => a.E b h (f x) cs
  len := a.len
  onec := a.onec
  mono := a.mono
  weak := a.weak
def El.row {α : Type} (t : TypeId) (a : El α) : El (List α) where
  sz := 1
  E := fun b h x cs => ∃ v, cs = [v] ∧ Row t a b h v x
  len := fun ⟨_, he, _⟩ => by rw [he]; rfl
  onec := fun ⟨v, he, r⟩ => by rw [he]; simpa using r.one
  mono := fun ⟨v, he, r⟩ l => ⟨v, he, r.mono l⟩
  weak := fun ⟨v, he, r⟩ => ⟨v, he, r.weak⟩

/-! ### values, what is asked for, pairs -/
structure V where
  kind : Int
  num : Int
  text : ByteArray
  deriving DecidableEq
structure Cmd where
  kind : Int
  name : ByteArray
  arg : V
  deriving DecidableEq
structure Pair_ where
  name : ByteArray
  value : V
  deriving DecidableEq
def vEl : El V := El.iso (El.pair (El.int .i64) (El.pair (El.int .i64) El.str)) (fun v => (v.kind, v.num, v.text))
def cmdEl : El Cmd := El.iso (El.pair (El.int .i64) (El.pair El.str vEl)) (fun v => (v.kind, v.name, v.arg))
def pairEl : El Pair_ := El.iso (El.pair El.str vEl) (fun v => (v.name, v.value))
abbrev V.cells (v : V) : List Value := [.int .i64 v.kind, .int .i64 v.num, .string v.text]
abbrev Cmd.cells (c : Cmd) : List Value := [.int .i64 c.kind, .string c.name, .int .i64 c.arg.kind, .int .i64 c.arg.num, .string c.arg.text]
abbrev Pair_.cells (c : Pair_) : List Value := [.string c.name, .int .i64 c.value.kind, .int .i64 c.value.num, .string c.value.text]
abbrev V.enc (v : V) : Value := .agg #[.int .i64 v.kind, .int .i64 v.num, .string v.text]
abbrev Cmd.enc (c : Cmd) : Value := .agg #[.int .i64 c.kind, .string c.name, .int .i64 c.arg.kind, .int .i64 c.arg.num, .string c.arg.text]
abbrev Pair_.enc (c : Pair_) : Value := .agg #[.string c.name, .int .i64 c.value.kind, .int .i64 c.value.num, .string c.value.text]
section
variable {b : Bool} {h : Hp} {cs : List Value}
theorem vEl_open {v : V} (a : vEl.E b h v cs) : cs = v.cells := by
  obtain ⟨c1, c2, h1, h2, rfl, _, rfl, c3, c4, h3, h4, rfl, _, rfl, rfl⟩ := a; rfl
theorem vEl_mk (b : Bool) (h : Hp) (v : V) : vEl.E b h v v.cells :=
  ⟨[_], [_, _], emp, h, rfl, Part.any b h, rfl, [_], [_], emp, h, rfl, Part.any b h, rfl, rfl⟩
theorem cmdEl_open {v : Cmd} (a : cmdEl.E b h v cs) : cs = v.cells := by
  obtain ⟨c1, c2, h1, h2, rfl, _, rfl, c3, c4, h3, h4, rfl, _, rfl, k⟩ := a
  rw [vEl_open k]; rfl
theorem cmdEl_mk (b : Bool) (h : Hp) (v : Cmd) : cmdEl.E b h v v.cells :=
  ⟨[_], [_, _, _, _], emp, h, rfl, Part.any b h, rfl, [_], [_, _, _], emp, h, rfl, Part.any b h, rfl, vEl_mk b h v.arg⟩
theorem cmdEl_flat {b b' : Bool} {h h' : Hp} {x : Cmd} {cs : List Value} (a : cmdEl.E b h x cs) : cmdEl.E b' h' x cs := by rw [cmdEl_open a]; exact cmdEl_mk _ _ _
theorem pairEl_open {v : Pair_} (a : pairEl.E b h v cs) : cs = v.cells := by
  obtain ⟨c1, c2, h1, h2, rfl, _, rfl, k⟩ := a
  rw [vEl_open k]; rfl
theorem pairEl_mk (b : Bool) (h : Hp) (v : Pair_) : pairEl.E b h v v.cells :=
  ⟨[_], [_, _, _], emp, h, rfl, Part.any b h, rfl, vEl_mk b h v.value⟩
theorem pairEl_flat {b b' : Bool} {h h' : Hp} {x : Pair_} {cs : List Value} (a : pairEl.E b h x cs) : pairEl.E b' h' x cs := by rw [pairEl_open a]; exact pairEl_mk _ _ _
end

/-! ### how a program stands; items of a cache -/
structure Out where
  cmds : List Cmd
  status : Int
  value : V
  on : ByteArray
  vars : List Pair_
  fuel : Int
  deriving DecidableEq
structure Item where
  run : Int
  many : Int
  out : Out
  deriving DecidableEq
def outEl (tc tp : TypeId) : El Out := El.iso (El.pair (El.row tc cmdEl) (El.pair (El.int .i64) (El.pair vEl (El.pair El.str (El.pair (El.row tp pairEl) (El.int .i64)))))) (fun x => (x.cmds, x.status, x.value, x.on, x.vars, x.fuel))
def itemEl (tc tp : TypeId) : El Item := El.iso (El.pair (El.int .i64) (El.pair (El.int .i64) (outEl tc tp))) (fun x => (x.run, x.many, x.out))
abbrev Out.cells (x : Out) (v1 v2 : Value) : List Value := [v1, .int .i64 x.status, .int .i64 x.value.kind, .int .i64 x.value.num, .string x.value.text, .string x.on, v2, .int .i64 x.fuel]
abbrev Item.cells (x : Item) (v1 v2 : Value) : List Value := [.int .i64 x.run, .int .i64 x.many, v1, .int .i64 x.out.status, .int .i64 x.out.value.kind, .int .i64 x.out.value.num, .string x.out.value.text, .string x.out.on, v2, .int .i64 x.out.fuel]
section
variable {b : Bool} {h h1 h2 : Hp} {cs : List Value} {tc tp : TypeId} {v1 v2 : Value}
theorem Part.skipL {g1 g2 : Hp} (p : Part b g1 g2 h) (q : Part b h1 h2 g2) : Part b h1 h2 h := q.mono p.2.2
theorem outEl_open {x : Out} (a : (outEl tc tp).E b h x cs) :
    ∃ v1 v2 h1 h2, cs = x.cells v1 v2 ∧ Part b h1 h2 h ∧ Row tc cmdEl b h1 v1 x.cmds ∧ Row tp pairEl b h2 v2 x.vars := by
  obtain ⟨_, _, h1, h2, rfl, p, ⟨v1, rfl, r1⟩, _, _, h3, h4, rfl, p2, rfl, _, _, h5, h6, rfl, p3, k, _, _, h7, h8, rfl, p4, rfl, _, _, h9, h10, rfl, p5, ⟨v2, rfl, r2⟩, rfl⟩ := a
  rw [vEl_open k]
  have l : Le h9 h2 := p5.2.1.trans (p4.2.2.trans (p3.2.2.trans p2.2.2))
  exact ⟨v1, v2, h1, h9, rfl, ⟨fun e => (p.1 e).mono (Le.refl _) l, p.2.1, l.trans p.2.2⟩, r1, r2⟩
theorem outEl_mk (x : Out) (p : Part b h1 h2 h) (r1 : Row tc cmdEl b h1 v1 x.cmds) (r2 : Row tp pairEl b h2 v2 x.vars) : (outEl tc tp).E b h x (x.cells v1 v2) :=
  ⟨[v1], _, h1, h2, rfl, p, ⟨v1, rfl, r1⟩, [_], _, emp, h2, rfl, Part.any b h2, rfl, x.value.cells, _, emp, h2, rfl, Part.any b h2, vEl_mk b emp x.value, [_], _, emp, h2, rfl, Part.any b h2, rfl, [v2], _, h2, emp, rfl, ⟨fun _ => Disj.emp' _, Le.refl _, Le.emp _⟩, ⟨v2, rfl, r2⟩, rfl⟩
theorem itemEl_open {x : Item} (a : (itemEl tc tp).E b h x cs) :
    ∃ v1 v2 h1 h2, cs = x.cells v1 v2 ∧ Part b h1 h2 h ∧ Row tc cmdEl b h1 v1 x.out.cmds ∧ Row tp pairEl b h2 v2 x.out.vars := by
  obtain ⟨_, _, h1, h2, rfl, p, rfl, _, _, h3, h4, rfl, p2, rfl, k⟩ := a
  obtain ⟨v1, v2, g1, g2, rfl, q, r1, r2⟩ := outEl_open k
  exact ⟨v1, v2, g1, g2, rfl, q.mono (p2.2.2.trans p.2.2), r1, r2⟩
theorem itemEl_mk (x : Item) (p : Part b h1 h2 h) (r1 : Row tc cmdEl b h1 v1 x.out.cmds) (r2 : Row tp pairEl b h2 v2 x.out.vars) : (itemEl tc tp).E b h x (x.cells v1 v2) :=
  ⟨[_], _, emp, h, rfl, Part.any b h, rfl, [_], _, emp, h, rfl, Part.any b h, rfl, outEl_mk x.out p r1 r2⟩
end

/-! ### cells of an element at hand -/
section
variable {w : World} {g o : Nat} {a0 a1 a2 a3 a4 a5 a6 a7 a8 a9 : Value}
theorem at3 (h : ∀ q u, [a0, a1, a2][q]? = some u → w.cell? ⟨g, o + q, none⟩ = some u) :
    w.cell? ⟨g, o, none⟩ = some a0 ∧ w.cell? ⟨g, o + 1, none⟩ = some a1 ∧ w.cell? ⟨g, o + 2, none⟩ = some a2 := ⟨h 0 _ rfl, h 1 _ rfl, h 2 _ rfl⟩
theorem at4 (h : ∀ q u, [a0, a1, a2, a3][q]? = some u → w.cell? ⟨g, o + q, none⟩ = some u) :
    w.cell? ⟨g, o, none⟩ = some a0 ∧ w.cell? ⟨g, o + 1, none⟩ = some a1 ∧ w.cell? ⟨g, o + 2, none⟩ = some a2 ∧ w.cell? ⟨g, o + 3, none⟩ = some a3 := ⟨h 0 _ rfl, h 1 _ rfl, h 2 _ rfl, h 3 _ rfl⟩
theorem at5 (h : ∀ q u, [a0, a1, a2, a3, a4][q]? = some u → w.cell? ⟨g, o + q, none⟩ = some u) :
    w.cell? ⟨g, o, none⟩ = some a0 ∧ w.cell? ⟨g, o + 1, none⟩ = some a1 ∧ w.cell? ⟨g, o + 2, none⟩ = some a2 ∧ w.cell? ⟨g, o + 3, none⟩ = some a3 ∧ w.cell? ⟨g, o + 4, none⟩ = some a4 :=
  ⟨h 0 _ rfl, h 1 _ rfl, h 2 _ rfl, h 3 _ rfl, h 4 _ rfl⟩
theorem at10 (h : ∀ q u, [a0, a1, a2, a3, a4, a5, a6, a7, a8, a9][q]? = some u → w.cell? ⟨g, o + q, none⟩ = some u) :
    w.cell? ⟨g, o, none⟩ = some a0 ∧ w.cell? ⟨g, o + 1, none⟩ = some a1 ∧ w.cell? ⟨g, o + 2, none⟩ = some a2 ∧ w.cell? ⟨g, o + 3, none⟩ = some a3 ∧ w.cell? ⟨g, o + 4, none⟩ = some a4 ∧
    w.cell? ⟨g, o + 5, none⟩ = some a5 ∧ w.cell? ⟨g, o + 6, none⟩ = some a6 ∧ w.cell? ⟨g, o + 7, none⟩ = some a7 ∧ w.cell? ⟨g, o + 8, none⟩ = some a8 ∧ w.cell? ⟨g, o + 9, none⟩ = some a9 :=
  ⟨h 0 _ rfl, h 1 _ rfl, h 2 _ rfl, h 3 _ rfl, h 4 _ rfl, h 5 _ rfl, h 6 _ rfl, h 7 _ rfl, h 8 _ rfl, h 9 _ rfl⟩
end
/-! ### element j of a row that is read, its cells -/
section
variable {h : Hp} {A : Option Addr} {n c j : Nat}
theorem cmd_at {l : List Cmd} {x : Cmd} (hr : Rd cmdEl h (.slice A n c) l) (hx : l[j]? = some x) : ∃ g o, A = some ⟨g, o, none⟩ ∧ ∀ W, Sub h W → W.cell? ⟨g, o + j * 5, none⟩ = some (.int .i64 x.kind) ∧ W.cell? ⟨g, o + j * 5 + 1, none⟩ = some (.string x.name) ∧ W.cell? ⟨g, o + j * 5 + 2, none⟩ = some (.int .i64 x.arg.kind) ∧ W.cell? ⟨g, o + j * 5 + 3, none⟩ = some (.int .i64 x.arg.num) ∧ W.cell? ⟨g, o + j * 5 + 4, none⟩ = some (.string x.arg.text) := by
  obtain ⟨g, o, cs, rfl, hE, hc⟩ := hr.at_ hx
  obtain rfl := cmdEl_open hE
  exact ⟨g, o, rfl, fun W hW => at5 (hc W hW)⟩
theorem pair_at {l : List Pair_} {x : Pair_} (hr : Rd pairEl h (.slice A n c) l) (hx : l[j]? = some x) : ∃ g o, A = some ⟨g, o, none⟩ ∧ ∀ W, Sub h W → W.cell? ⟨g, o + j * 4, none⟩ = some (.string x.name) ∧ W.cell? ⟨g, o + j * 4 + 1, none⟩ = some (.int .i64 x.value.kind) ∧ W.cell? ⟨g, o + j * 4 + 2, none⟩ = some (.int .i64 x.value.num) ∧ W.cell? ⟨g, o + j * 4 + 3, none⟩ = some (.string x.value.text) := by
  obtain ⟨g, o, cs, rfl, hE, hc⟩ := hr.at_ hx
  obtain rfl := pairEl_open hE
  exact ⟨g, o, rfl, fun W hW => at4 (hc W hW)⟩
theorem item_at {tc tp : TypeId} {l : List Item} {x : Item} (hr : Rd (itemEl tc tp) h (.slice A n c) l) (hx : l[j]? = some x) :
    ∃ g o v1 v2, A = some ⟨g, o, none⟩ ∧ Rd cmdEl h v1 x.out.cmds ∧ Rd pairEl h v2 x.out.vars ∧ ∀ W, Sub h W → W.cell? ⟨g, o + j * 10, none⟩ = some (.int .i64 x.run) ∧ W.cell? ⟨g, o + j * 10 + 1, none⟩ = some (.int .i64 x.many) ∧ W.cell? ⟨g, o + j * 10 + 2, none⟩ = some (v1) ∧ W.cell? ⟨g, o + j * 10 + 3, none⟩ = some (.int .i64 x.out.status) ∧ W.cell? ⟨g, o + j * 10 + 4, none⟩ = some (.int .i64 x.out.value.kind) ∧ W.cell? ⟨g, o + j * 10 + 5, none⟩ = some (.int .i64 x.out.value.num) ∧ W.cell? ⟨g, o + j * 10 + 6, none⟩ = some (.string x.out.value.text) ∧ W.cell? ⟨g, o + j * 10 + 7, none⟩ = some (.string x.out.on) ∧ W.cell? ⟨g, o + j * 10 + 8, none⟩ = some (v2) ∧ W.cell? ⟨g, o + j * 10 + 9, none⟩ = some (.int .i64 x.out.fuel) := by
  obtain ⟨g, o, cs, rfl, hE, hc⟩ := hr.at_ hx
  obtain ⟨v1, v2, h1, h2, rfl, p, r1, r2⟩ := itemEl_open hE
  exact ⟨g, o, v1, v2, rfl, r1.rd.mono p.2.1, r2.rd.mono p.2.2, fun W hW => at10 (hc W hW)⟩
end
/-! ### a struct's box -/
section
variable {W : World} {g : Nat} {t : TypeId} {fr : Nat × Nat}
theorem sub_new (w : World) (o : Obj) : Sub (one w.heap.size o) (w.alloc o) := fun k p e => by
  unfold one at e
  split at e
  · rename_i hk; subst hk; cases e; exact heap_alloc_new w o
  · cases e
theorem box3 {a0 a1 a2 : Value} (s : Sub (one g (.cells #[a0, a1, a2] t fr)) W) : W.cell? ⟨g, 0, none⟩ = some a0 ∧ W.cell? ⟨g, 1, none⟩ = some a1 ∧ W.cell? ⟨g, 2, none⟩ = some a2 := by
  have h := fun q => sub_cell (w := W) s (show one g _ g = some (.cells #[a0, a1, a2] t fr) from if_pos rfl) q
  exact ⟨h 0, h 1, h 2⟩
theorem box4 {a0 a1 a2 a3 : Value} (s : Sub (one g (.cells #[a0, a1, a2, a3] t fr)) W) : W.cell? ⟨g, 0, none⟩ = some a0 ∧ W.cell? ⟨g, 1, none⟩ = some a1 ∧ W.cell? ⟨g, 2, none⟩ = some a2 ∧ W.cell? ⟨g, 3, none⟩ = some a3 := by
  have h := fun q => sub_cell (w := W) s (show one g _ g = some (.cells #[a0, a1, a2, a3] t fr) from if_pos rfl) q
  exact ⟨h 0, h 1, h 2, h 3⟩
theorem box5 {a0 a1 a2 a3 a4 : Value} (s : Sub (one g (.cells #[a0, a1, a2, a3, a4] t fr)) W) : W.cell? ⟨g, 0, none⟩ = some a0 ∧ W.cell? ⟨g, 1, none⟩ = some a1 ∧ W.cell? ⟨g, 2, none⟩ = some a2 ∧ W.cell? ⟨g, 3, none⟩ = some a3 ∧ W.cell? ⟨g, 4, none⟩ = some a4 := by
  have h := fun q => sub_cell (w := W) s (show one g _ g = some (.cells #[a0, a1, a2, a3, a4] t fr) from if_pos rfl) q
  exact ⟨h 0, h 1, h 2, h 3, h 4⟩
theorem box8 {a0 a1 a2 a3 a4 a5 a6 a7 : Value} (s : Sub (one g (.cells #[a0, a1, a2, a3, a4, a5, a6, a7] t fr)) W) : W.cell? ⟨g, 0, none⟩ = some a0 ∧ W.cell? ⟨g, 1, none⟩ = some a1 ∧ W.cell? ⟨g, 2, none⟩ = some a2 ∧ W.cell? ⟨g, 3, none⟩ = some a3 ∧ W.cell? ⟨g, 4, none⟩ = some a4 ∧ W.cell? ⟨g, 5, none⟩ = some a5 ∧ W.cell? ⟨g, 6, none⟩ = some a6 ∧ W.cell? ⟨g, 7, none⟩ = some a7 := by
  have h := fun q => sub_cell (w := W) s (show one g _ g = some (.cells #[a0, a1, a2, a3, a4, a5, a6, a7] t fr) from if_pos rfl) q
  exact ⟨h 0, h 1, h 2, h 3, h 4, h 5, h 6, h 7⟩
theorem box10 {a0 a1 a2 a3 a4 a5 a6 a7 a8 a9 : Value} (s : Sub (one g (.cells #[a0, a1, a2, a3, a4, a5, a6, a7, a8, a9] t fr)) W) : W.cell? ⟨g, 0, none⟩ = some a0 ∧ W.cell? ⟨g, 1, none⟩ = some a1 ∧ W.cell? ⟨g, 2, none⟩ = some a2 ∧ W.cell? ⟨g, 3, none⟩ = some a3 ∧ W.cell? ⟨g, 4, none⟩ = some a4 ∧ W.cell? ⟨g, 5, none⟩ = some a5 ∧ W.cell? ⟨g, 6, none⟩ = some a6 ∧ W.cell? ⟨g, 7, none⟩ = some a7 ∧ W.cell? ⟨g, 8, none⟩ = some a8 ∧ W.cell? ⟨g, 9, none⟩ = some a9 := by
  have h := fun q => sub_cell (w := W) s (show one g _ g = some (.cells #[a0, a1, a2, a3, a4, a5, a6, a7, a8, a9] t fr) from if_pos rfl) q
  exact ⟨h 0, h 1, h 2, h 3, h 4, h 5, h 6, h 7, h 8, h 9⟩
end
end Go.Proofs.Ytccioimicdggkaa.C
