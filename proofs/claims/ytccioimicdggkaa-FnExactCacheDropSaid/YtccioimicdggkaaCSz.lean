/- What the sizes' functions hand back: -1, or what is left. -/
import Derived.Test.YtccioimicdggkaaCType
import Derived.Test.YtccioimicdggkaaProg

namespace Go.Proofs.Ytccioimicdggkaa.C
open Go.RowKit
set_option linter.unusedVariables false
set_option linter.unusedSimpArgs false
def V.sz (v : V) : Nat := v.text.size
def Cmd.sz (v : Cmd) : Nat := v.name.size + v.arg.sz
def Pair_.sz (v : Pair_) : Nat := v.name.size + v.value.sz
def V.ok (v : V) : Prop := v.text.size ≤ 9223372036854775807
def Cmd.ok (v : Cmd) : Prop := v.name.size ≤ 9223372036854775807 ∧ v.arg.ok
def Pair_.ok (v : Pair_) : Prop := v.name.size ≤ 9223372036854775807 ∧ v.value.ok
def Out.ok (v : Out) : Prop := (∀ c ∈ v.cmds, c.ok) ∧ v.value.ok ∧ v.on.size ≤ 9223372036854775807 ∧ ∀ c ∈ v.vars, c.ok
def sumBy {α : Type} (f : α → Nat) (l : List α) : Nat := l.length + (l.map f).sum
def Out.sz (v : Out) : Nat := sumBy Cmd.sz v.cmds + v.value.sz + v.on.size + sumBy Pair_.sz v.vars
/-- Less than nothing is left, or so much. -/
def Left (w : World) (left : Int) (n : Nat) (e : Ending) (w' : World) : Prop := ∃ r : Int, e = .returned (.int .i64 r) ∧ (r = -1 ∨ 0 ≤ r ∧ r + n = left) ∧ Below w.heap.size w w'
set_option maxHeartbeats 1000000 in
theorem szValue_calls (v : V) (left : Int) (h0 : 0 ≤ left) (h1 : left ≤ 1048576) (hv : v.ok) (w : World) : Calls Try.prog 32 #[v.enc, .int .i64 left] w (Left w left v.sz) := by
  have h2 := hv
  unfold V.ok at h2
  by_cases hlt : left < v.text.size
  · go_enter Try.func32, Try.ntmps32
    go_wp2
    go_ret
    exact ⟨-1, rfl, .inl rfl, ((Below.refl _ _).alloc (Nat.le_refl _) _)⟩
  · go_enter Try.func32, Try.ntmps32
    go_wp2
    go_ret
    exact ⟨left - v.text.size, rfl, .inr ⟨by omega, by unfold V.sz; omega⟩, ((Below.refl _ _).alloc (Nat.le_refl _) _)⟩
set_option maxHeartbeats 1000000 in
theorem szCmd_calls (v : Cmd) (left : Int) (h0 : 0 ≤ left) (h1 : left ≤ 1048576) (hv : v.ok) (w : World) : Calls Try.prog 40 #[v.enc, .int .i64 left] w (Left w left v.sz) := by
  have h2 := hv.1
  by_cases hlt : left < v.name.size
  · go_enter Try.func40, Try.ntmps40
    go_wp2
    go_ret
    exact ⟨-1, rfl, .inl rfl, ((Below.refl _ _).alloc (Nat.le_refl _) _)⟩
  · go_enter Try.func40, Try.ntmps40
    go_wp2_with (go_at_call 32; refine (szValue_calls v.arg (left - v.name.size) (by omega) (by omega) hv.2 _).mono ?_; rintro e w1 ⟨r, rfl, rfl | ⟨h3, h4⟩, hb⟩)
    · go_wp2
      go_ret
      exact ⟨-1, rfl, .inl rfl, ((Below.refl _ _).alloc (Nat.le_refl _) _).trans (hb.mono (by simp))⟩
    · have h5 : ¬ r < 0 := by omega
      clear h3
      have h4' := Kp.mk h4
      clear h4
      go_wp2
      go_ret
      exact ⟨r, rfl, .inr ⟨by omega, by have := h4'.out; unfold Cmd.sz; omega⟩, ((Below.refl _ _).alloc (Nat.le_refl _) _).trans (hb.mono (by simp))⟩
set_option maxHeartbeats 1000000 in
theorem szPair_calls (v : Pair_) (left : Int) (h0 : 0 ≤ left) (h1 : left ≤ 1048576) (hv : v.ok) (w : World) : Calls Try.prog 41 #[v.enc, .int .i64 left] w (Left w left v.sz) := by
  have h2 := hv.1
  by_cases hlt : left < v.name.size
  · go_enter Try.func41, Try.ntmps41
    go_wp2
    go_ret
    exact ⟨-1, rfl, .inl rfl, ((Below.refl _ _).alloc (Nat.le_refl _) _)⟩
  · go_enter Try.func41, Try.ntmps41
    go_wp2_with (go_at_call 32; refine (szValue_calls v.value (left - v.name.size) (by omega) (by omega) hv.2 _).mono ?_; rintro e w1 ⟨r, rfl, rfl | ⟨h3, h4⟩, hb⟩)
    · go_wp2
      go_ret
      exact ⟨-1, rfl, .inl rfl, ((Below.refl _ _).alloc (Nat.le_refl _) _).trans (hb.mono (by simp))⟩
    · have h5 : ¬ r < 0 := by omega
      clear h3
      have h4' := Kp.mk h4
      clear h4
      go_wp2
      go_ret
      exact ⟨r, rfl, .inr ⟨by omega, by have := h4'.out; unfold Pair_.sz; omega⟩, ((Below.refl _ _).alloc (Nat.le_refl _) _).trans (hb.mono (by simp))⟩
theorem sumBy_take {α : Type} (f : α → Nat) {l : List α} {j : Nat} {x : α} (h : l[j]? = some x) : ((l.take (j + 1)).map f).sum = ((l.take j).map f).sum + f x := by
  obtain ⟨hl, rfl⟩ := List.getElem?_eq_some_iff.1 h
  rw [List.take_succ_eq_append_getElem hl, List.map_append, List.sum_append, List.map_singleton, List.sum_singleton]
set_option maxHeartbeats 1000000 in
theorem szCmdS_calls {h : Hp} {A : Option Addr} {n c : Nat} {l : List Cmd} (left : Int) (h0 : 0 ≤ left) (h1 : left ≤ 1048576) (hr : Rd cmdEl h (.slice A n c) l) (hok : ∀ v ∈ l, v.ok) (w : World) (hs : Sub h w) :
    Calls Try.prog 31 #[.slice A n c, .int .i64 left] w (Left w left (sumBy Cmd.sz l)) := by
  obtain ⟨hn, hnc, hc⟩ := hr.len_le
  by_cases hlt : left < n
  · go_enter Try.func31, Try.ntmps31
    go_wp2
    go_ret
    exact ⟨-1, rfl, .inl rfl, Below.refl _ _⟩
  · have hn' := Kp.mk hn
    clear hn
    go_enter Try.func31, Try.ntmps31
    go_wp2
    go_loopg [1, 5] (n + 1) (fun k l1 i wr => ∃ (j : Nat) (r : Int), i = .int .i64 j ∧ j ≤ n ∧ k = n + 1 - j ∧ l1 = .int .i64 r ∧ 0 ≤ r ∧ r ≤ 1048576 ∧ Kp (r + n + ((l.take j).map Cmd.sz).sum = left) ∧ Below w.heap.size w wr)
    case atStart => exact ⟨0, left - n, rfl, by omega, by omega, rfl, by omega, by omega, ⟨by simp⟩, Below.refl _ _⟩
    case round =>
      obtain ⟨j, r, rfl, hj, hk, rfl, hr0, hr1, HS, HB⟩ := hrel
      have hk' := Kp.mk hk
      clear hk
      by_cases hjn : j < n
      · obtain ⟨x, hx⟩ : ∃ x, l[j]? = some x := ⟨_, List.getElem?_eq_getElem (by have := hn'.out; omega)⟩
        obtain ⟨g, o, rfl, hc⟩ := cmd_at hr hx
        obtain ⟨c0, c1, c2, c3, c4⟩ := hc wr (hs.below HB)
        have hxo := hok x (List.mem_of_getElem? hx)
        have hst := Kp.mk (sumBy_take Cmd.sz hx)
        clear hc hx
        go_wp2_with (go_at_call 40; refine (szCmd_calls x r hr0 hr1 hxo _).mono ?_; rintro e w1 ⟨r1, rfl, rfl | ⟨h3, h4⟩, hb⟩)
        · go_wp2
          go_ret
          exact ⟨-1, rfl, .inl rfl, HB.trans (hb.mono HB.size)⟩
        · have h5 : ¬ r1 < 0 := by omega
          have h4' := Kp.mk h4
          have h3' := Kp.mk h3
          clear h4 h3
          go_wp2
          go_roundg (n + 1 - (j + 1))
          case measure => have := hk'.out; omega
          case rel => exact ⟨j + 1, r1, by go_num, by omega, rfl, rfl, h3'.out, by have := h4'.out; omega, ⟨by have := h4'.out; have := HS.out; have := hst.out; omega⟩, HB.trans (hb.mono HB.size)⟩
      · go_wp2
        go_ret
        exact ⟨r, rfl, .inr ⟨hr0, by have := HS.out; have h6 := hn'.out; rw [List.take_of_length_le (by omega)] at this; unfold sumBy; omega⟩, HB⟩
set_option maxHeartbeats 1000000 in
theorem szPairS_calls {h : Hp} {A : Option Addr} {n c : Nat} {l : List Pair_} (left : Int) (h0 : 0 ≤ left) (h1 : left ≤ 1048576) (hr : Rd pairEl h (.slice A n c) l) (hok : ∀ v ∈ l, v.ok) (w : World) (hs : Sub h w) :
    Calls Try.prog 33 #[.slice A n c, .int .i64 left] w (Left w left (sumBy Pair_.sz l)) := by
  obtain ⟨hn, hnc, hc⟩ := hr.len_le
  by_cases hlt : left < n
  · go_enter Try.func33, Try.ntmps33
    go_wp2
    go_ret
    exact ⟨-1, rfl, .inl rfl, Below.refl _ _⟩
  · have hn' := Kp.mk hn
    clear hn
    go_enter Try.func33, Try.ntmps33
    go_wp2
    go_loopg [1, 5] (n + 1) (fun k l1 i wr => ∃ (j : Nat) (r : Int), i = .int .i64 j ∧ j ≤ n ∧ k = n + 1 - j ∧ l1 = .int .i64 r ∧ 0 ≤ r ∧ r ≤ 1048576 ∧ Kp (r + n + ((l.take j).map Pair_.sz).sum = left) ∧ Below w.heap.size w wr)
    case atStart => exact ⟨0, left - n, rfl, by omega, by omega, rfl, by omega, by omega, ⟨by simp⟩, Below.refl _ _⟩
    case round =>
      obtain ⟨j, r, rfl, hj, hk, rfl, hr0, hr1, HS, HB⟩ := hrel
      have hk' := Kp.mk hk
      clear hk
      by_cases hjn : j < n
      · obtain ⟨x, hx⟩ : ∃ x, l[j]? = some x := ⟨_, List.getElem?_eq_getElem (by have := hn'.out; omega)⟩
        obtain ⟨g, o, rfl, hc⟩ := pair_at hr hx
        obtain ⟨c0, c1, c2, c3⟩ := hc wr (hs.below HB)
        have hxo := hok x (List.mem_of_getElem? hx)
        have hst := Kp.mk (sumBy_take Pair_.sz hx)
        clear hc hx
        go_wp2_with (go_at_call 41; refine (szPair_calls x r hr0 hr1 hxo _).mono ?_; rintro e w1 ⟨r1, rfl, rfl | ⟨h3, h4⟩, hb⟩)
        · go_wp2
          go_ret
          exact ⟨-1, rfl, .inl rfl, HB.trans (hb.mono HB.size)⟩
        · have h5 : ¬ r1 < 0 := by omega
          have h4' := Kp.mk h4
          have h3' := Kp.mk h3
          clear h4 h3
          go_wp2
          go_roundg (n + 1 - (j + 1))
          case measure => have := hk'.out; omega
          case rel => exact ⟨j + 1, r1, by go_num, by omega, rfl, rfl, h3'.out, by have := h4'.out; omega, ⟨by have := h4'.out; have := HS.out; have := hst.out; omega⟩, HB.trans (hb.mono HB.size)⟩
      · go_wp2
        go_ret
        exact ⟨r, rfl, .inr ⟨hr0, by have := HS.out; have h6 := hn'.out; rw [List.take_of_length_le (by omega)] at this; unfold sumBy; omega⟩, HB⟩
abbrev Out.enc (x : Out) (v1 v2 : Value) : Value := .agg #[v1, .int .i64 x.status, .int .i64 x.value.kind, .int .i64 x.value.num, .string x.value.text, .string x.on, v2, .int .i64 x.fuel]
abbrev Item.enc (x : Item) (v1 v2 : Value) : Value := .agg #[.int .i64 x.run, .int .i64 x.many, v1, .int .i64 x.out.status, .int .i64 x.out.value.kind, .int .i64 x.out.value.num, .string x.out.value.text, .string x.out.on, v2, .int .i64 x.out.fuel]
theorem left_of {w W : World} {left a : Int} {n m : Nat} (hb : Below w.heap.size w W) (h : a + n = left) (h0 : 0 ≤ a) (hn : n = m) : Left w left m (.returned (.int .i64 a)) W := ⟨a, rfl, .inr ⟨h0, by rw [← hn]; exact h⟩, hb⟩
theorem left_no {w W : World} {left : Int} {n : Nat} (hb : Below w.heap.size w W) : Left w left n (.returned (.int .i64 (-1))) W := ⟨-1, rfl, .inl rfl, hb⟩
set_option maxHeartbeats 2000000 in
theorem szOut_calls {h : Hp} {v1 v2 : Value} {x : Out} (left : Int) (h0 : 0 ≤ left) (h1 : left ≤ 1048576) (r1 : Rd cmdEl h v1 x.cmds) (r2 : Rd pairEl h v2 x.vars) (hok : x.ok) (w : World) (hs : Sub h w) :
    Calls Try.prog 28 #[x.enc v1 v2, .int .i64 left] w (Left w left x.sz) := by
  obtain ⟨A1, e1, rfl⟩ := r1.slice
  obtain ⟨A2, e2, rfl⟩ := r2.slice
  obtain ⟨o1, o2, o3, o4⟩ := hok
  have HL := Kp.mk (show (left : Int) ≤ left from Int.le_refl _)
  go_enter Try.func28, Try.ntmps28
  go_wp2_with (first
    | (go_at_call 31; refine (szCmdS_calls left h0 h1 r1 o1 _ (hs.below (b0 _ _))).mono ?_; rintro e w1 ⟨a, rfl, hr, hb⟩; have S1 := Kp.mk ((sub_new w _).below hb); obtain ⟨-, c1, c2, c3, c4, c5, c6, c7⟩ := box8 S1.out; have HB1 := Kp.mk (bl (b0 _ _) hb); clear hb; rcases hr with rfl | ⟨p0, p1⟩; rotate_left; have p2 : a ≤ 1048576 := (by omega); have H1 := Kp.mk p1; clear p1)
    | (go_at_call 32; refine (szValue_calls x.value a p0 p2 o2 _).mono ?_; rintro e w2 ⟨d, rfl, hr, hb⟩; obtain ⟨-, -, -, -, -, d5, d6, -⟩ := box8 (S1.out.below hb); have HB2 := Kp.mk (bl HB1.out hb); clear hb; rcases hr with rfl | ⟨q0, q1⟩; rotate_left; have q2 : d ≤ 1048576 := (by omega); have H2 := Kp.mk q1; clear q1)
    | (go_at_call 33; refine (szPairS_calls (d - x.on.size) (by omega) (by omega) r2 o4 _ (hs.below HB2.out)).mono ?_; rintro e w3 ⟨f, rfl, hr, hb⟩; have HB3 := Kp.mk (bl HB2.out hb); clear hb; rcases hr with rfl | ⟨s0, s1⟩; rotate_left; have H3 := Kp.mk s1; clear s1))
  all_goals (go_ret; first | exact ⟨f, rfl, .inr ⟨s0, by have := H1.out; have := H2.out; have := H3.out; unfold Out.sz; omega⟩, HB3.out⟩ | exact left_no HB3.out | exact left_no HB2.out | exact left_no HB1.out)
set_option maxHeartbeats 2000000 in
theorem szItem_calls {h : Hp} {v1 v2 : Value} {x : Item} (left : Int) (h0 : 0 ≤ left) (h1 : left ≤ 1048576) (r1 : Rd cmdEl h v1 x.out.cmds) (r2 : Rd pairEl h v2 x.out.vars) (hok : x.out.ok) (w : World) (hs : Sub h w) :
    Calls Try.prog 18 #[x.enc v1 v2, .int .i64 left] w (Left w left x.out.sz) := by
  go_enter Try.func18, Try.ntmps18
  go_wp2_with (go_at_call 28; refine (szOut_calls (x := x.out) left h0 h1 r1 r2 hok _ (hs.below (b0 _ _))).mono ?_; rintro e w1 ⟨a, rfl, hr, hb⟩; have HB1 := Kp.mk (bl (b0 _ _) hb); clear hb; rcases hr with rfl | ⟨p0, p1⟩; rotate_left; have H1 := Kp.mk p1; clear p1)
  all_goals (go_ret; first | exact ⟨a, rfl, .inr ⟨p0, H1.out⟩, HB1.out⟩ | exact left_no HB1.out)
set_option maxHeartbeats 2000000 in
theorem szItemS_calls {h : Hp} {tc tp : TypeId} {A : Option Addr} {n c : Nat} {l : List Item} (left : Int) (h0 : 0 ≤ left) (h1 : left ≤ 1048576) (hr : Rd (itemEl tc tp) h (.slice A n c) l) (hok : ∀ v ∈ l, v.out.ok) (w : World) (hs : Sub h w) :
    Calls Try.prog 11 #[.slice A n c, .int .i64 left] w (Left w left (sumBy (fun x => x.out.sz) l)) := by
  obtain ⟨hn, hnc, hc⟩ := hr.len_le
  by_cases hlt : left < n
  · go_enter Try.func11, Try.ntmps11
    go_wp2
    go_ret
    exact ⟨-1, rfl, .inl rfl, Below.refl _ _⟩
  · have hn' := Kp.mk hn
    clear hn
    go_enter Try.func11, Try.ntmps11
    go_wp2
    go_loopg [1, 5] (n + 1) (fun k l1 i wr => ∃ (j : Nat) (r : Int), i = .int .i64 j ∧ j ≤ n ∧ k = n + 1 - j ∧ l1 = .int .i64 r ∧ 0 ≤ r ∧ r ≤ 1048576 ∧ Kp (r + n + ((l.take j).map (fun x => x.out.sz)).sum = left) ∧ Below w.heap.size w wr)
    case atStart => exact ⟨0, left - n, rfl, by omega, by omega, rfl, by omega, by omega, ⟨by simp⟩, Below.refl _ _⟩
    case round =>
      obtain ⟨j, r, rfl, hj, hk, rfl, hr0, hr1, HS, HB⟩ := hrel
      have hk' := Kp.mk hk
      clear hk
      by_cases hjn : j < n
      · obtain ⟨x, hx⟩ : ∃ x, l[j]? = some x := ⟨_, List.getElem?_eq_getElem (by have := hn'.out; omega)⟩
        obtain ⟨g, o, v1, v2, rfl, r1, r2, hc⟩ := item_at hr hx
        obtain ⟨c0, c1, c2, c3, c4, c5, c6, c7, c8, c9⟩ := hc wr (hs.below HB)
        have hxo := hok x (List.mem_of_getElem? hx)
        have hst := Kp.mk (sumBy_take (fun x => x.out.sz) hx)
        clear hc hx
        go_wp2_with (go_at_call 18; refine (szItem_calls r hr0 hr1 r1 r2 hxo _ (hs.below HB)).mono ?_; rintro e w1 ⟨r1, rfl, rfl | ⟨h3, h4⟩, hb⟩)
        · go_wp2
          go_ret
          exact ⟨-1, rfl, .inl rfl, HB.trans (hb.mono HB.size)⟩
        · have h5 : ¬ r1 < 0 := by omega
          have h4' := Kp.mk h4
          have h3' := Kp.mk h3
          clear h4 h3
          go_wp2
          go_roundg (n + 1 - (j + 1))
          case measure => have := hk'.out; omega
          case rel => exact ⟨j + 1, r1, by go_num, by omega, rfl, rfl, h3'.out, by have := h4'.out; omega, ⟨by have := h4'.out; have := HS.out; have := hst.out; omega⟩, HB.trans (hb.mono HB.size)⟩
      · go_wp2
        go_ret
        exact ⟨r, rfl, .inr ⟨hr0, by have := HS.out; have h6 := hn'.out; rw [List.take_of_length_le (by omega)] at this; unfold sumBy; omega⟩, HB⟩
set_option maxHeartbeats 2000000 in
theorem szCache_calls {h : Hp} {tc tp : TypeId} {A : Option Addr} {n c : Nat} {l : List Item} (left : Int) (h0 : 0 ≤ left) (h1 : left ≤ 1048576) (hr : Rd (itemEl tc tp) h (.slice A n c) l) (hok : ∀ v ∈ l, v.out.ok) (w : World) (hs : Sub h w) :
    Calls Try.prog 4 #[.agg #[.slice A n c], .int .i64 left] w (Left w left (sumBy (fun x => x.out.sz) l)) := by
  go_enter Try.func4, Try.ntmps4
  go_wp2_with (go_at_call 11; refine (szItemS_calls left h0 h1 hr hok _ (hs.below (b0 _ _))).mono ?_; rintro e w1 ⟨a, rfl, hr, hb⟩; have HB1 := Kp.mk (bl (b0 _ _) hb); clear hb; rcases hr with rfl | ⟨p0, p1⟩; rotate_left; have H1 := Kp.mk p1; clear p1)
  all_goals (go_ret; first | exact ⟨a, rfl, .inr ⟨p0, H1.out⟩, HB1.out⟩ | exact left_no HB1.out)
end Go.Proofs.Ytccioimicdggkaa.C
