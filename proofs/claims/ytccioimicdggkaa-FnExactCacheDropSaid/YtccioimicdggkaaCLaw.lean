/- Laws of the walk over owned rows: make, append, a store of an element. -/
import Derived.Test.YtccioimicdggkaaCType
namespace Go.Proofs.Ytccioimicdggkaa.C
open Go.RowKit
set_option linter.unusedVariables false
set_option linter.unusedSimpArgs false
theorem setCells_row {g : Nat} {e : TypeId} : ∀ (vs : List Value) (o : Nat) (w : World) (cur : Array Value), w.heap[g]? = some (.cells cur e (0, 0)) → o + vs.length ≤ cur.size →
    ∃ cur', (w.setCells g o vs).heap[g]? = some (.cells cur' e (0, 0)) ∧ cur'.size = cur.size ∧ cur'.toList = cur.toList.take o ++ vs ++ cur.toList.drop (o + vs.length)
  | [], o, w, cur, h, _ => ⟨cur, h, rfl, by simp⟩
  | v :: r, o, w, cur, h, hl => by
    have h2 := heap_set w g o cur e v h
    simp only [List.length_cons] at hl
    obtain ⟨cur', h3, h4, h5⟩ := setCells_row r (o + 1) (w.setCell ⟨g, o, none⟩ v) _ h2 (by simp; omega)
    refine ⟨cur', h3, by rw [h4]; simp, ?_⟩
    rw [h5, Array.toList_setIfInBounds]
    have ho : o < cur.toList.length := by rw [Array.length_toList]; omega
    rw [List.take_set, List.drop_set_of_lt (by omega)]
    simp only [List.length_cons]
    rw [show o + 1 + r.length = o + (r.length + 1) by omega]
    congr 1
    rw [List.take_succ_eq_append_getElem ho, List.set_append_right _ _ (by rw [List.length_take]; omega)]
    have ho' : o < cur.size := by omega
    simp [Nat.min_eq_left (Nat.le_of_lt ho')]
theorem setCells_same (g : Nat) : ∀ (vs : List Value) (o : Nat) (w : World), (w.setCells g o vs).os = w.os ∧ (w.setCells g o vs).tape = w.tape ∧ (w.setCells g o vs).output = w.output ∧ (w.setCells g o vs).heap.size = w.heap.size ∧ ∀ k, k ≠ g → (w.setCells g o vs).heap[k]? = w.heap[k]?
  | [], _, _ => ⟨rfl, rfl, rfl, rfl, fun _ _ => rfl⟩
  | v :: r, o, w => by
    obtain ⟨h1, h2, h3, h4, h5⟩ := setCells_same g r (o + 1) (w.setCell ⟨g, o, none⟩ v)
    exact ⟨h1, h2, h3, h4.trans (by simp), fun k hk => (h5 k hk).trans (Below.heap_setCell _ _ _ _ hk)⟩
/-- What a made row is full of. -/
theorem made_list (z : Array Value) (hz : 0 < z.size) : ∀ n, (madeCells z (n * z.size)).toList = (List.replicate n z.toList).flatten := by
  intro n
  apply List.ext_getElem?
  intro j
  have h1 : ∀ j, (madeCells z (n * z.size)).toList[j]? = if j < n * z.size then some z[j % z.size]! else none := by
    intro j
    unfold madeCells
    rw [Array.getElem?_toList, Array.getElem?_map]
    by_cases hj : j < n * z.size
    · simp [hj]
    · rw [Array.getElem?_eq_none (by simp; omega)]; simp [hj]
  rw [h1]
  clear h1
  induction n generalizing j with
  | zero => simp
  | succ n ih =>
    rw [List.replicate_succ, List.flatten_cons]
    by_cases hj : j < z.size
    · rw [List.getElem?_append_left (by simpa using hj), if_pos (by rw [Nat.add_mul]; omega), Nat.mod_eq_of_lt hj]
      simp [hj]
    · rw [List.getElem?_append_right (by simp; omega), Array.length_toList, ← ih (j - z.size), Nat.add_mul]
      have hm : j % z.size = (j - z.size) % z.size := by rw [← Nat.mod_eq_sub_mod (by omega)]
      rw [hm]
      by_cases h2 : j - z.size < n * z.size
      · rw [if_pos h2, if_pos (by omega)]
      · rw [if_neg h2, if_neg (by omega)]
section
variable {P : Program} {ops : Array Oper} {rest : List Oper} {o : Oper} {a : Act} {Q : Exit → Act → World → Prop} {α : Type}
/-- make([]T, n) -/
theorem wp_make {w : World} (el : El α) (z0 : α) (z : Value) (bytes : Nat) (e : TypeId) (hg : o.guard = none) (l c : Operand) (t : TypeId) (hop : o.op = Op.makeSlice t l c)
    (ht : P.underlying t = some (.slice e)) (hinfo : (P.info? e).map (fun i => (i.zero, i.size, i.bytes)) = some (some z, el.sz, bytes)) (hz : el.E true emp z0 z.cells.toList) (hsz : 0 < el.sz)
    {kl kc : IntKind} {n : Nat} (hl : a.eval l = .int kl n) (hc : a.eval c = .int kc n) (hb : bytes * n ≤ 281474976710656) (hn : n ≤ 9223372036854775807)
    (h : ∀ w1 h1, Own e el h1 (.slice (some ⟨w.heap.size, 0, none⟩) n n) (List.replicate n z0) → Step emp w h1 w1 → wpList P ops Q rest (a.put o.dst (.slice (some ⟨w.heap.size, 0, none⟩) n n)) w1) :
    wpList P ops Q (o :: rest) a w := by
  obtain ⟨i, hi, hz0, hz1, hz2⟩ := info_parts hinfo
  refine wpList_plain hg fun K hK => ?_
  have hb' : (i.bytes : Int) * (n : Int) ≤ 281474976710656 := by
    have h : ((i.bytes * n : Nat) : Int) ≤ 281474976710656 := by rw [hz2]; omega
    rwa [Int.natCast_mul] at h
  have hr := run_make (P := P) w t e i z ht hi hz0 kl kc n n (by omega) (Int.le_refl _) hb' (by omega)
  simp only [Int.toNat_natCast] at hr
  unfold Oper.wp
  simp [execOp, hop, hl, hc, hr, Result.andThen]
  refine hK _ _ ?_
  have hzl : z.cells.size = el.sz := by have := el.len hz; simpa using this
  refine h _ (one w.heap.size (.cells (madeCells z.cells (n * i.size)) e)) (.inr ⟨w.heap.size, n, madeCells z.cells (n * i.size), emp, by rw [List.length_replicate], by rw [List.length_replicate]; omega, hn, (size_madeCells _ _).trans (by rw [hz1]), by simp [one], rfl, Le.emp _, ?_⟩) ⟨rfl, rfl, rfl, by simp, fun k hk _ => Below.heap_alloc _ _ _ hk, sub_new w _, fun k hk => ?_⟩
  · rw [List.length_replicate, hz1, ← hzl, made_list _ (by omega), List.take_of_length_le]
    · have := Els.fill hz n
      exact this
    · have := (Els.fill hz n).len
      rw [this]; simp; rw [hzl]; exact Nat.le_refl _
  · right
    unfold one at hk
    split at hk
    · omega
    · exact absurd rfl hk
/-- append(s, x...) to an owned row; what x's cells hold is handed over. -/
theorem wp_append {W : World} (el : El α) (z : Value) (bytes : Nat) (e : TypeId) (hg : o.guard = none) (s x : Operand) (t : TypeId) (ho : o.op = .call { callee := .builtin .append, args := #[s, x], argTypes := #[t, t] })
    (ht : P.underlying t = some (.slice e)) (hinfo : (P.info? e).map (fun i => (i.zero, i.size, i.bytes)) = some (some z, el.sz, bytes)) (hz : z.cells.size = el.sz) (hsz : 0 < el.sz) (hb0 : 0 < bytes)
    {v : Value} {xs ys : List α} {hO hY : Hp} (hs : a.eval s = v) (HO : Own e el hO v xs) (sO : Sub hO W) {A : Option Addr} {m c : Nat} {news : List Value} (hx : a.eval x = .slice A m c) (hm : m = ys.length) (hA : A = none → ys = [] ∧ c = 0)
    (hnews : ∀ ad, A = some ad → ∀ j u, news[j]? = some u → W.cell? (ad.add j) = some u) (HY : Els el true hY ys news) (sY : Sub hY W) (hd : Disj hO hY) (hl : (xs.length + ys.length) * bytes ≤ 140737488355328)
    (h : ∀ v1 w1 h1, Own e el h1 v1 (xs ++ ys) → Step (cup hO hY) W h1 w1 → wpList P ops Q rest (a.put o.dst v1) w1) : wpList P ops Q (o :: rest) a W := by
  obtain ⟨i, hi, hz0, hz1, hz2⟩ := info_parts hinfo
  obtain ⟨cells, hown, hin, hle, hE, hnb⟩ := HO.owns sO
  have hvO : ∀ k, v.ownBlock = some k → hO k ≠ none := by
    intro k hk
    rcases HO with ⟨rfl, _⟩ | ⟨g, cap, cur, hin, rfl, _, _, _, h5, _⟩
    · simp [Value.ownBlock] at hk
    · simp [Value.ownBlock] at hk; subst hk; simp [h5]
  subst hm
  refine wpList_plain hg fun K hK => ?_
  cases A with
  | none =>
    obtain ⟨rfl, rfl⟩ := hA rfl
    have hr := run_append_owned_none (P := P) W 0 t o.type e i el.sz ht hi v xs.length cells hown
    unfold Oper.wp execOp
    simp only [ho, resolve, invoke, builtin, Sem.run_bind, Sem.run_pure, Result.andThen_ok, List.map_toArray, List.map_cons, List.map_nil, hs, hx, List.length_nil, hr]
    exact hK _ _ (h v W (cup hO hY) (by rw [List.append_nil]; exact HO.mono (Le.cupL _ _)) (Step.start (sO.cup sY)))
  | some ad =>
    have hlen : (xs.length + ys.length) ≤ 140737488355328 := Nat.le_trans (Nat.le_mul_of_pos_right _ hb0) hl
    obtain ⟨v', w', hr, h2, h3, h4, h5⟩ := run_append_own_at (P := P) W 0 t o.type e i z el.sz bytes ht hi hz0 hz1 hz2 hz hsz v xs.length cells hown ad ys.length c news HY.len (hnews ad rfl) HY.onec (by simp only [maxLen]; omega) hl (Nat.zero_le _)
    unfold Oper.wp execOp
    simp only [ho, resolve, invoke, builtin, Sem.run_bind, Sem.run_pure, Result.andThen_ok, List.map_toArray, List.map_cons, List.map_nil, hs, hx, hr]
    refine hK _ _ ?_
    have hE2 : Els el true (cup hin hY) (xs ++ ys) (cells ++ news) := hE.append HY (Part.cup (hd.mono hle (Le.refl _)))
    have hin0 : Sub hin W := sO.le hle
    have hnb' : ∀ k, v'.ownBlock = some k → cup hin hY k = none := by
      intro k hk
      rcases h5 with h5 | h5
      · rw [h5] at hk
        exact cup_none.2 ⟨hnb k hk, (hd k).resolve_left (hvO k hk)⟩
      · rw [h5] at hk
        cases hk
        refine cup_none.2 ⟨?_, ?_⟩
        · cases hq : hin W.heap.size with
          | none => rfl
          | some p => exact absurd (hin0.lt (k := W.heap.size) (by simp [hq])) (Nat.lt_irrefl _)
        · cases hq : hY W.heap.size with
          | none => rfl
          | some p => exact absurd (sY.lt (k := W.heap.size) (by simp [hq])) (Nat.lt_irrefl _)
    rw [show xs.length + ys.length = (xs ++ ys).length by simp] at h2
    obtain ⟨h', k1, k2, k3⟩ := own_of h2 hE2 hnb'
    have hb : ∀ k, k < W.heap.size → cup hO hY k = none → w'.heap[k]? = W.heap[k]? := fun k hk hn => h3.block k hk (fun e => hvO k e.symm (cup_none.1 hn).1)
    have hsub : Sub (cup hin hY) w' := (hin0.cup sY).step fun k hk hlt => h3.block k hlt (fun e => by
      have h7 := hnb k e.symm
      have h8 := (hd k).resolve_left (hvO k e.symm)
      exact hk (cup_none.2 ⟨h7, h8⟩))
    refine h v' w' h' k1 ⟨h3.os, h3.tape, h3.output, h3.size, hb, k3 hsub, fun k hk => ?_⟩
    rcases k2 k hk with h7 | h7
    · rcases h5 with h5 | h5
      · rw [h5] at h7
        exact .inl (fun e => hvO k h7.symm (cup_none.1 e).1)
      · rw [h5] at h7
        cases h7
        exact .inr (Nat.le_refl _)
    · left
      intro e
      apply h7
      refine cup_none.2 ⟨?_, (cup_none.1 e).2⟩
      cases hq : hin k with
      | none => rfl
      | some p => have := hle k p hq; rw [(cup_none.1 e).1] at this; cases this
end
/-- An element of an owned row, written whole. -/
theorem Own.set {α : Type} {t : TypeId} {el : El α} {h hy : Hp} {w : World} {g n c j : Nat} {xs : List α} {x y : α} {cs : List Value} (a : Own t el h (.slice (some ⟨g, 0, none⟩) n c) xs) (s : Sub h w) (hx : xs[j]? = some x)
    (hE : el.E true hy y cs) (sy : Sub hy w) (hd : Disj h hy) :
    ∃ h', Own t el h' (.slice (some ⟨g, 0, none⟩) n c) (xs.set j y) ∧ Step (cup h hy) w h' (w.setCells g (j * el.sz) cs) := by
  rcases a with ⟨hv, _⟩ | ⟨g', cap, cur, hin, hv, h2, h3, h4, h5, h6, h7, h8⟩
  · cases hv
  · injection hv with hg hn hc
    injection hg with hg
    cases hg; subst hn; subst hc
    obtain ⟨g1, g2, c0, p, hE0, hq, hcs, hback⟩ := h8.focus hx
    have hj : j < xs.length := (List.getElem?_eq_some_iff.1 hx).1
    have hjs : j * el.sz + el.sz ≤ xs.length * el.sz := by
      have : (j + 1) * el.sz ≤ xs.length * el.sz := Nat.mul_le_mul_right _ hj
      rw [Nat.add_mul] at this; omega
    have hcap : xs.length * el.sz ≤ c * el.sz := Nat.mul_le_mul_right _ h2
    have hl := el.len hE
    obtain ⟨cur', r1, r2, r3⟩ := setCells_row cs (j * el.sz) w cur (s g _ h5) (by omega)
    obtain ⟨s1, s2, s3, s4, s5⟩ := setCells_same g cs (j * el.sz) w
    have hyg : hy g = none := (hd g).resolve_left (by simp [h5])
    have hd2 : Disj hy g2 := (hd.mono (p.2.2.trans h7) (Le.refl _)).symm
    have hg2 : g2 g = none := by
      cases hq : g2 g with
      | none => rfl
      | some p' => have := p.2.2 g p' hq; rw [h6] at this; cases this
    have hng : cup hy g2 g = none := cup_none.2 ⟨hyg, hg2⟩
    have hlst := hback hy y cs hd2 hE
    refine ⟨cup (one g (.cells cur' t (0, 0))) (cup hy g2), .inr ⟨g, c, cur', cup hy g2, by simp, by simpa using h2, h3, by rw [r2, h4], by simp [cup, one], hng, Le.cupR (fun k => ?_), ?_⟩, ⟨s1, s2, s3, by rw [s4]; exact Nat.le_refl _, fun k hk hn => s5 k ?_, Sub.cup (fun k o e => ?_) (Sub.step (sy.cup (s.le (p.2.2.trans h7))) fun k hk hlt => s5 k ?_), fun k hk => ?_⟩⟩
    · by_cases hk : k = g
      · subst hk; exact .inr hng
      · exact .inl (by simp [one, hk])
    · rw [List.length_set, r3]
      have e1 : (cur.toList.take (j * el.sz) ++ cs ++ cur.toList.drop (j * el.sz + cs.length)).take (xs.length * el.sz) = (cur.toList.take (xs.length * el.sz)).take (j * el.sz) ++ cs ++ (cur.toList.take (xs.length * el.sz)).drop (j * el.sz + el.sz) := by
        have hcl : cur.toList.length = c * el.sz := by rw [Array.length_toList, h4]
        rw [List.take_take, Nat.min_eq_left (by omega), hl, List.take_append, List.take_of_length_le (by rw [List.length_append, List.length_take]; omega), List.drop_take]
        congr 2
        rw [List.length_append, List.length_take, Nat.min_eq_left (by omega), hl]
      rw [e1]
      exact hlst
    · rintro rfl
      have := (cup_none.1 hn).1
      rw [h5] at this; cases this
    · unfold one at e
      split at e
      · rename_i hk; subst hk; cases e; exact r1
      · cases e
    · rintro rfl; exact hk hng
    · left
      intro e
      have e' := cup_none.1 e
      apply hk
      refine cup_none.2 ⟨?_, cup_none.2 ⟨e'.2, ?_⟩⟩
      · unfold one
        rw [if_neg]
        rintro rfl
        rw [h5] at e'; cases e'.1
      · cases hq : g2 k with
        | none => rfl
        | some p' => have := h7 k p' (p.2.2 k p' hq); rw [e'.1] at this; cases this
theorem Own.frozen {α : Type} {t : TypeId} {el : El α} {h : Hp} {w : World} {g n c off : Nat} {sp : Option Nat} {xs : List α} (a : Own t el h (.slice (some ⟨g, off, sp⟩) n c) xs) (s : Sub h w) : ∀ i, w.frozen? ⟨g, i, none⟩ = false := by
  rcases a with ⟨hv, _⟩ | ⟨g', cap, cur, hin, hv, h2, h3, h4, h5, h6, h7, h8⟩
  · cases hv
  · injection hv with hg hn hc
    injection hg with hg
    cases hg
    exact fun i => sub_frozen s h5 i
theorem Own.lt {α : Type} {t : TypeId} {el : El α} {h : Hp} {w : World} {g n c off : Nat} {sp : Option Nat} {xs : List α} (a : Own t el h (.slice (some ⟨g, off, sp⟩) n c) xs) (s : Sub h w) : g < w.heap.size := by
  rcases a with ⟨hv, _⟩ | ⟨g', cap, cur, hin, hv, h2, h3, h4, h5, h6, h7, h8⟩
  · cases hv
  · injection hv with hg hn hc
    injection hg with hg
    cases hg
    exact sub_lt s h5
section
variable {α : Type} {t : TypeId} {el : El α} {H h hy : Hp} {hs : List Hp} {bs : List Nat} {w0 w : World} {g n c j : Nat} {xs : List α} {x y : α} {cs : List Value}
theorem Holds.set (a : Holds H w0 w bs (h :: hy :: hs)) (o : Own t el h (.slice (some ⟨g, 0, none⟩) n c) xs) (hx : xs[j]? = some x) (hE : el.E true hy y cs) :
    ∃ h', Own t el h' (.slice (some ⟨g, 0, none⟩) n c) (xs.set j y) ∧ Holds H w0 (w.setCells g (j * el.sz) cs) bs (h' :: hs) := by
  obtain ⟨h', o', s⟩ := o.set a.fst hx hE a.snd a.disj
  exact ⟨h', o', a.join.call s⟩
theorem Holds.set0 (a : Holds H w0 w bs (h :: hs)) (o : Own t el h (.slice (some ⟨g, 0, none⟩) n c) xs) (hx : xs[j]? = some x) (hE : el.E true emp y cs) :
    ∃ h', Own t el h' (.slice (some ⟨g, 0, none⟩) n c) (xs.set j y) ∧ Holds H w0 (w.setCells g (j * el.sz) cs) bs (h' :: hs) := (a.put.swap).set o hx hE
end
theorem pad_at {α : Type} {l : List α} {z : α} {n j : Nat} (hl : n ≤ l.length) (hj : j < n) : (l.take j ++ List.replicate (n - j) z)[j]? = some z := by
  rw [List.getElem?_append_right (by rw [List.length_take]; omega), List.length_take, Nat.min_eq_left (by omega), Nat.sub_self, List.getElem?_replicate, if_pos (by omega)]
theorem pad_set {α : Type} {l : List α} {z x : α} {n j : Nat} (hl : n ≤ l.length) (hj : j < n) (hx : l[j]? = some x) : (l.take j ++ List.replicate (n - j) z).set j x = l.take (j + 1) ++ List.replicate (n - (j + 1)) z := by
  obtain ⟨h1, rfl⟩ := List.getElem?_eq_some_iff.1 hx
  have h2 : (l.take j).length = j := by rw [List.length_take]; omega
  rw [List.set_append_right _ _ (by omega), h2, Nat.sub_self, show n - j = (n - (j + 1)) + 1 by omega, List.replicate_succ, List.set_cons_zero, List.take_succ_eq_append_getElem h1, List.append_assoc]
  rfl
/-! ### element j of an owned row, its cells -/
section
variable {t : TypeId} {h : Hp} {g off n c j : Nat} {sp : Option Nat}
theorem cmd_own {l : List Cmd} {x : Cmd} (hr : Own t cmdEl h (.slice (some ⟨g, off, sp⟩) n c) l) (hx : l[j]? = some x) (W : World) (hW : Sub h W) : W.cell? ⟨g, j * 5, none⟩ = some (.int .i64 x.kind) ∧ W.cell? ⟨g, j * 5 + 1, none⟩ = some (.string x.name) ∧ W.cell? ⟨g, j * 5 + 2, none⟩ = some (.int .i64 x.arg.kind) ∧ W.cell? ⟨g, j * 5 + 3, none⟩ = some (.int .i64 x.arg.num) ∧ W.cell? ⟨g, j * 5 + 4, none⟩ = some (.string x.arg.text) := by
  obtain ⟨_, _, cs, hE, hc⟩ := hr.at_ hx
  obtain rfl := cmdEl_open hE
  exact at5 (hc W hW)
theorem pair_own {l : List Pair_} {x : Pair_} (hr : Own t pairEl h (.slice (some ⟨g, off, sp⟩) n c) l) (hx : l[j]? = some x) (W : World) (hW : Sub h W) : W.cell? ⟨g, j * 4, none⟩ = some (.string x.name) ∧ W.cell? ⟨g, j * 4 + 1, none⟩ = some (.int .i64 x.value.kind) ∧ W.cell? ⟨g, j * 4 + 2, none⟩ = some (.int .i64 x.value.num) ∧ W.cell? ⟨g, j * 4 + 3, none⟩ = some (.string x.value.text) := by
  obtain ⟨_, _, cs, hE, hc⟩ := hr.at_ hx
  obtain rfl := pairEl_open hE
  exact at4 (hc W hW)
theorem item_own {tc tp : TypeId} {l : List Item} {x : Item} (hr : Own t (itemEl tc tp) h (.slice (some ⟨g, off, sp⟩) n c) l) (hx : l[j]? = some x) (W : World) (hW : Sub h W) :
    ∃ v1 v2, Rd cmdEl h v1 x.out.cmds ∧ Rd pairEl h v2 x.out.vars ∧ W.cell? ⟨g, j * 10, none⟩ = some (.int .i64 x.run) ∧ W.cell? ⟨g, j * 10 + 1, none⟩ = some (.int .i64 x.many) ∧ W.cell? ⟨g, j * 10 + 2, none⟩ = some (v1) ∧ W.cell? ⟨g, j * 10 + 3, none⟩ = some (.int .i64 x.out.status) ∧ W.cell? ⟨g, j * 10 + 4, none⟩ = some (.int .i64 x.out.value.kind) ∧ W.cell? ⟨g, j * 10 + 5, none⟩ = some (.int .i64 x.out.value.num) ∧ W.cell? ⟨g, j * 10 + 6, none⟩ = some (.string x.out.value.text) ∧ W.cell? ⟨g, j * 10 + 7, none⟩ = some (.string x.out.on) ∧ W.cell? ⟨g, j * 10 + 8, none⟩ = some (v2) ∧ W.cell? ⟨g, j * 10 + 9, none⟩ = some (.int .i64 x.out.fuel) := by
  obtain ⟨_, _, cs, hE, hc⟩ := hr.at_ hx
  obtain ⟨v1, v2, h1, h2, rfl, p, r1, r2⟩ := itemEl_open hE
  exact ⟨v1, v2, r1.rd.mono p.2.1, r2.rd.mono p.2.2, at10 (hc W hW)⟩
end
section
variable {P : Program} {ops : Array Oper} {rest : List Oper} {o : Oper} {a : Act} {Q : Exit → Act → World → Prop} {α : Type}
/-- append(s, x...), in the middle of a walk: the boxes are as they were. -/
theorem wp_appendH {W w0 : World} {H : Hp} {bs : List Nat} {hs' : List Hp} (el : El α) (z : Value) (bytes : Nat) (e : TypeId) (hg : o.guard = none) (s x : Operand) (t : TypeId) (ho : o.op = .call { callee := .builtin .append, args := #[s, x], argTypes := #[t, t] })
    (ht : P.underlying t = some (.slice e)) (hinfo : (P.info? e).map (fun i => (i.zero, i.size, i.bytes)) = some (some z, el.sz, bytes)) (hz : z.cells.size = el.sz) (hsz : 0 < el.sz) (hb0 : 0 < bytes)
    {v : Value} {xs ys : List α} {hO hY : Hp} (hs : a.eval s = v) (HO : Own e el hO v xs) {A : Option Addr} {m c : Nat} {news : List Value} (hx : a.eval x = .slice A m c) (hm : m = ys.length) (hA : A = none → ys = [] ∧ c = 0)
    (hnews : ∀ ad, A = some ad → ∀ j u, news[j]? = some u → W.cell? (ad.add j) = some u) (HY : Els el true hY ys news) (HH : Holds H w0 W bs (hO :: hY :: hs')) (hl : (xs.length + ys.length) * bytes ≤ 140737488355328)
    (h : ∀ A1 c1 w1 h1, Own e el h1 (.slice A1 (xs ++ ys).length c1) (xs ++ ys) → Holds H w0 w1 bs (h1 :: hs') →
      (∀ g ∈ bs, (∀ o, w1.cell? ⟨g, o, none⟩ = W.cell? ⟨g, o, none⟩) ∧ (∀ o, w1.frozen? ⟨g, o, none⟩ = W.frozen? ⟨g, o, none⟩) ∧ g < w1.heap.size) → W.heap.size ≤ w1.heap.size → wpList P ops Q rest (a.put o.dst (.slice A1 (xs ++ ys).length c1)) w1) : wpList P ops Q (o :: rest) a W := by
  refine wp_append el z bytes e hg s x t ho ht hinfo hz hsz hb0 hs HO HH.fst hx hm hA hnews HY HH.snd HH.disj hl fun v1 w1 h1 O1 S1 => ?_
  obtain ⟨A1, c1, rfl⟩ := O1.rd.slice
  refine h A1 c1 w1 h1 O1 (HH.join.call S1) (fun g hg => ?_) S1.size
  obtain ⟨q1, q2, q3⟩ := HH.box g hg
  have hb : w1.heap[g]? = W.heap[g]? := S1.block g q2 (cup_none.2 ⟨q3 hO (by simp), q3 hY (by simp)⟩)
  exact ⟨fun o => World.cell?_of_block (w := W) (a := ⟨g, o, none⟩) hb, fun o => World.frozen?_of_block (w := W) (a := ⟨g, o, none⟩) hb, Nat.lt_of_lt_of_le q2 S1.size⟩
end
theorem Own.empty {α : Type} (t : TypeId) (el : El α) (g : Nat) : Own t el (one g (.cells #[] t (0, 0))) (.slice (some ⟨g, 0, none⟩) 0 0) [] :=
  .inr ⟨g, 0, #[], emp, rfl, Nat.le_refl _, by omega, by simp, by simp [one], rfl, Le.emp _, by simp [Els]⟩
theorem Step.new (w : World) (o : Obj) : Step emp w (one w.heap.size o) (w.alloc o) :=
  ⟨rfl, rfl, rfl, by simp, fun k hk _ => Below.heap_alloc _ _ _ hk, sub_new w o, fun k hk => by
    right
    unfold one at hk
    split at hk
    · omega
    · exact absurd rfl hk⟩
theorem news_box {w : World} {cs : List Value} {t : TypeId} {n : Nat} (hn : n = w.heap.size) : ∀ j u, cs[j]? = some u → (w.alloc (.cells cs.toArray t)).cell? ((⟨n, 0, none⟩ : Addr).add j) = some u := fun j u hu => by
  subst hn
  have ha : (⟨w.heap.size, 0, none⟩ : Addr).add j = ⟨w.heap.size, j, none⟩ := by unfold Addr.add; split <;> simp_all
  rw [ha, World.cell?_alloc_new]
  simpa using hu
/-! ### an element of an owned row, opened and written piece by piece -/
def setA (cur : Array Value) : Nat → List Value → Array Value
  | _, [] => cur
  | o, v :: r => setA (cur.setIfInBounds o v) (o + 1) r
theorem setA_list : ∀ (vs : List Value) (o : Nat) (cur : Array Value), o + vs.length ≤ cur.size → (setA cur o vs).toList = cur.toList.take o ++ vs ++ cur.toList.drop (o + vs.length)
  | [], o, cur, _ => by simp [setA]
  | v :: r, o, cur, hl => by
    simp only [List.length_cons] at hl
    rw [setA, setA_list r (o + 1) _ (by simp; omega), Array.toList_setIfInBounds]
    have ho : o < cur.toList.length := by rw [Array.length_toList]; omega
    rw [List.take_set, List.drop_set_of_lt (by omega)]
    simp only [List.length_cons]
    rw [show o + 1 + r.length = o + (r.length + 1) by omega]
    congr 1
    rw [List.take_succ_eq_append_getElem ho, List.set_append_right _ _ (by rw [List.length_take]; omega)]
    have ho' : o < cur.size := by omega
    simp [Nat.min_eq_left (Nat.le_of_lt ho')]
theorem Own.edit {α : Type} {t : TypeId} {el : El α} {h : Hp} {v : Value} {j : Nat} {xs : List α} {x : α} (a : Own t el h v xs) (hx : xs[j]? = some x) :
    ∃ g cap cur hin h1 h2 c, v = .slice (some ⟨g, 0, none⟩) xs.length cap ∧ j * el.sz + el.sz ≤ cur.size ∧ Part true (one g (.cells cur t (0, 0))) hin h ∧ Part true h1 h2 hin ∧ el.E true h1 x c ∧ (∀ (q : Nat) (u : Value), c[q]? = some u → cur[j * el.sz + q]? = some u) ∧
      ∀ h1' y cs' cur', el.E true h1' y cs' → cur'.toList = cur.toList.take (j * el.sz) ++ cs' ++ cur.toList.drop (j * el.sz + el.sz) → Disj h1' h2 → Disj (one g (.cells cur' t (0, 0))) (cup h1' h2) →
        Own t el (cup (one g (.cells cur' t (0, 0))) (cup h1' h2)) v (xs.set j y) := by
  rcases a with ⟨_, rfl⟩ | ⟨g, cap, cur, hin, hv, h2, h3, h4, h5, h6, h7, h8⟩
  · simp at hx
  · obtain ⟨g1, g2, c0, p, hE0, hq, hcs, hback⟩ := h8.focus hx
    have hj : j < xs.length := (List.getElem?_eq_some_iff.1 hx).1
    have hjs : j * el.sz + el.sz ≤ xs.length * el.sz := by
      have : (j + 1) * el.sz ≤ xs.length * el.sz := Nat.mul_le_mul_right _ hj
      rw [Nat.add_mul] at this; omega
    have hcap : xs.length * el.sz ≤ cap * el.sz := Nat.mul_le_mul_right _ h2
    refine ⟨g, cap, cur, hin, g1, g2, c0, hv, by omega, ⟨fun _ k => ?_, fun k o he => ?_, h7⟩, p, hE0, fun q u hu => ?_, fun h1' y cs' cur' hE hc hd hd2 => ?_⟩
    · by_cases hk : k = g
      · subst hk; exact .inr h6
      · exact .inl (by simp [one, hk])
    · unfold one at he
      split at he
      · rename_i hk; subst hk; cases he; exact h5
      · cases he
    · have h9 := hq q u hu
      have h10 := (List.getElem?_eq_some_iff.1 h9).1
      rw [List.length_take] at h10
      rw [List.getElem?_take_of_lt (by omega)] at h9
      simpa using h9
    · have hl := el.len hE
      have hlst := hback h1' y cs' hd hE
      have hcl : cur.toList.length = cap * el.sz := by rw [Array.length_toList, h4]
      refine .inr ⟨g, cap, cur', cup h1' g2, by rw [hv, List.length_set], by rw [List.length_set]; exact h2, h3, ?_, by simp [cup, one], (hd2 g).resolve_left (by simp [one]), Le.cupR hd2, ?_⟩
      · have h11 := congrArg List.length hc
        rw [List.length_append, List.length_append, List.length_take, List.length_drop, Array.length_toList, hl] at h11
        omega
      · rw [List.length_set, hc]
        have e1 : (cur.toList.take (j * el.sz) ++ cs' ++ cur.toList.drop (j * el.sz + el.sz)).take (xs.length * el.sz) = (cur.toList.take (xs.length * el.sz)).take (j * el.sz) ++ cs' ++ (cur.toList.take (xs.length * el.sz)).drop (j * el.sz + el.sz) := by
          rw [List.take_take, Nat.min_eq_left (by omega), List.take_append, List.take_of_length_le (by rw [List.length_append, List.length_take]; omega), List.drop_take]
          congr 2
          rw [List.length_append, List.length_take, Nat.min_eq_left (by omega), hl]
        rw [e1]
        exact hlst
section
variable {H h1 h2 : Hp} {w0 w : World} {bs : List Nat} {hs : List Hp} {g : Nat} {cur : Array Value} {t : TypeId}
/-- A store into a block of one's own. -/
theorem Holds.sto (a : Holds H w0 w bs (one g (.cells cur t (0, 0)) :: hs)) (i : Nat) (v : Value) : Holds H w0 (w.setCell ⟨g, i, none⟩ v) bs (one g (.cells (cur.setIfInBounds i v) t (0, 0)) :: hs) := by
  have h := a.store (if_pos rfl) i v
  rw [hset_one] at h
  exact h
/-- What lies there already. -/
theorem Holds.same (a : Holds H w0 w bs (one g (.cells cur t (0, 0)) :: hs)) {i : Nat} {v : Value} (h : cur[i]? = some v) : Holds H w0 w bs (one g (.cells (cur.setIfInBounds i v) t (0, 0)) :: hs) := by
  have e : cur.setIfInBounds i v = cur := by
    apply Array.ext_getElem?
    intro k
    by_cases hk : i = k
    · subst hk
      rw [Array.getElem?_setIfInBounds_self_of_lt (Array.getElem?_eq_some_iff.1 h).1, h]
    · rw [Array.getElem?_setIfInBounds_ne hk]
  rw [e]; exact a
/-- .. put together again. -/
theorem Holds.shut (a : Holds H w0 w bs (one g (.cells cur t (0, 0)) :: h1 :: h2 :: hs)) : Disj h1 h2 ∧ Disj (one g (.cells cur t (0, 0))) (cup h1 h2) ∧ Holds H w0 w bs (cup (one g (.cells cur t (0, 0))) (cup h1 h2) :: hs) := by
  have b := a.third.third
  have c := b.join.swap
  exact ⟨b.disj, c.disj, c.join⟩
end
end Go.Proofs.Ytccioimicdggkaa.C
