/- The marking and the checking of marks: what is written is what is looked for. -/
import Derived.Test.YtccioimicdggkaaCDrop
import Derived.Laws.BytesArg
import Derived.Lib.AppendStr
namespace Go.Proofs.Ytccioimicdggkaa.C
open Go.RowKit
set_option linter.unusedVariables false
set_option linter.unusedSimpArgs false
def dig (n : Nat) : ByteArray := strOfNums [48 + (n : Int) % 10]
def mtl : Nat → Nat → ByteArray → ByteArray
  | 0, _, out => out
  | f + 1, n, out => if n = 0 then out else mtl f (n / 10) (dig n ++ out)
def mt (k : Int) : ByteArray := if k ≤ 0 then ⟨#[109, 48]⟩ else ⟨#[109]⟩ ++ mtl 20 k.toNat ⟨#[]⟩
set_option maxHeartbeats 2000000 in
set_option maxRecDepth 100000 in
theorem markText_calls (k : Int) (h0 : 0 < k) (h1 : k < 10000000000000000000) (w : World) : Calls Try.prog 24 #[.int .i64 k] w fun e w' => e = .returned (.string (mt k)) ∧ Below w.heap.size w w' := by
  go_enter Try.func24, Try.ntmps24
  go_wp2
  go_loopg [0, 3] 20 (fun g k' out wr => ∃ (n : Nat) (o : ByteArray), k' = .int .i64 n ∧ out = .string o ∧ n < 10 ^ (g - 1) ∧ 0 < g ∧ o.size + g ≤ 20 ∧ Kp (mtl g n o = mtl 20 k.toNat ⟨#[]⟩) ∧ Kp (Below w.heap.size w wr))
  case atStart => exact ⟨k.toNat, ⟨#[]⟩, by rw [show ((k.toNat : Int)) = k by omega], rfl, by omega, by omega, by decide, ⟨rfl⟩, ⟨Below.refl _ _⟩⟩
  case round =>
    obtain ⟨n, o, rfl, rfl, hn, hg, ho, HM, HB⟩ := hrel
    by_cases hn0 : 0 < n
    · have hm : 0 ≤ (n : Int) % 10 ∧ (n : Int) % 10 < 10 := by omega
      have hcv : (convert 66 9 (.slice (some ⟨wr.heap.size, 0, none⟩) 1 1)).run Try.prog (wr.alloc (.cells #[.int .u8 (48 + (n : Int) % 10)] 5)) = .ok (.string (dig n)) (wr.alloc (.cells #[.int .u8 (48 + (n : Int) % 10)] 5)) :=
        run_convert_bytes_arg (P := Try.prog) _ 66 5 Try.underlying66 Try.underlying5 wr.heap.size 0 1 1 [48 + (n : Int) % 10] rfl (fun i hi => by
          obtain rfl : i = 0 := by omega
          simp) 9 Try.underlying9
      have hsz : (dig n).size = 1 := rfl
      have hsz2 : (dig n ++ o).size ≤ 9223372036854775807 := by rw [ByteArray.size_append, hsz]; omega
      go_wp2
      go_roundg (gk - 1)
      case measure => omega
      case rel =>
        have hM := HM.out
        rw [show gk = (gk - 1) + 1 by omega, mtl, if_neg (by omega)] at hM
        have h2 : 1 < gk := by
          rcases Nat.lt_or_ge 1 gk with h | h
          · exact h
          · obtain rfl : gk = 1 := by omega
            simp at hn; omega
        have h3 : n < 10 * 10 ^ (gk - 1 - 1) := by
          have h4 : gk - 1 = (gk - 1 - 1) + 1 := by omega
          rw [h4, Nat.pow_succ] at hn; omega
        have h5 : n < 10000000000000000000 := Nat.lt_of_lt_of_le hn (Nat.le_trans (Nat.pow_le_pow_right (by omega) (show gk - 1 ≤ 19 by omega)) (by decide))
        exact ⟨n / 10, dig n ++ o, by simp; unfold wrap64; omega, rfl, by omega, by omega, by rw [ByteArray.size_append, hsz]; omega, ⟨hM⟩, ⟨ba HB.out _⟩⟩
    · go_wp2
      go_ret
      obtain rfl : n = 0 := by omega
      have hM := HM.out
      rw [show gk = (gk - 1) + 1 by omega, mtl, if_pos rfl] at hM
      exact ⟨by unfold mt; rw [if_neg (by omega), ← hM]; rfl, HB.out⟩
def mkCmd (k : Int) : Cmd := ⟨k, mt (k + 1), ⟨k + 1 + 1, k + 1 + 1 + 1, mt (k + 1 + 1 + 1 + 1)⟩⟩
def mkPair (k : Int) : Pair_ := ⟨mt k, ⟨k + 1, k + 1 + 1, mt (k + 1 + 1 + 1)⟩⟩
def mCmds (k : Int) (n : Nat) : List Cmd := (List.range n).map fun i : Nat => mkCmd (k + 5 * (i : Int))
def mPairs (k : Int) (n : Nat) : List Pair_ := (List.range n).map fun i : Nat => mkPair (k + 4 * (i : Int))
theorem marked_set {α : Type} (f : Nat → α) (l : List α) {j : Nat} (hj : j < l.length) : ((List.range j).map f ++ l.drop j).set j (f j) = (List.range (j + 1)).map f ++ l.drop (j + 1) := by
  rw [List.set_append_right _ _ (by simp), List.length_map, List.length_range, Nat.sub_self, List.drop_eq_getElem_cons hj, List.set_cons_zero, List.range_succ, List.map_append]
  simp
theorem marked_at {α : Type} (f : Nat → α) (l : List α) {j : Nat} {x : α} (hx : l[j]? = some x) : ((List.range j).map f ++ l.drop j)[j]? = some x := by
  rw [List.getElem?_append_right (by simp)]
  simpa using hx
/-- What marking leaves: the row holds other elements, the number has gone on. -/
def Marks {α : Type} (t : TypeId) (el : El α) (h : Hp) (v : Value) (k : Int) (xs : List α) (w : World) (e : Ending) (w' : World) : Prop := ∃ h', e = .returned (.int .i64 k) ∧ Own t el h' v xs ∧ Step h w h' w'
set_option maxHeartbeats 3000000 in
set_option maxRecDepth 100000 in
theorem markCmdS_calls {h : Hp} {v : Value} {l : List Cmd} (k : Int) (h0 : 0 < k) (hk : k + 5 * l.length < 10000000000000) (hl : l.length ≤ 1048576) (ho : Own 65 cmdEl h v l) (w : World) (hs : Sub h w) : Calls Try.prog 23 #[v, .int .i64 k] w (Marks 65 cmdEl h v (k + 5 * l.length) (mCmds k l.length) w) := by
  obtain ⟨A, c, rfl⟩ := ho.rd.slice
  have HS := Kp.mk (Holds.start hs)
  have HO := Kp.mk ho
  clear hs
  go_enter Try.func23, Try.ntmps23
  go_wp2
  go_loopg [1, 5] (l.length + 1) (fun g k' i wr => ∃ (j : Nat) (h' : Hp), i = .int .i64 j ∧ j ≤ l.length ∧ g = l.length + 1 - j ∧ k' = .int .i64 (k + 5 * j) ∧ Kp (Own 65 cmdEl h' (.slice A l.length c) ((List.range j).map (fun i : Nat => mkCmd (k + 5 * (i : Int))) ++ l.drop j)) ∧ Kp (Holds h w wr [] [h']))
  case atStart => exact ⟨0, h, rfl, by omega, by omega, by simp, by simpa using HO, HS⟩
  case round =>
    clear HS HO
    obtain ⟨j, h', rfl, hj, hk, rfl, HO, HS⟩ := hrel
    have hk' := Kp.mk hk
    clear hk
    by_cases hjn : j < l.length
    · obtain ⟨x, hx⟩ : ∃ x, l[j]? = some x := ⟨_, List.getElem?_eq_getElem hjn⟩
      obtain ⟨g, cap, cur, hin, g1, g2, cs, hv, hsz, p1, p2, hE, hq, hback⟩ := HO.out.edit (marked_at _ l hx)
      injection hv with hA hn hc
      subst hA; subst hc
      obtain rfl := cmdEl_open hE
      have HS1 := Kp.mk (((HS.out.split p1).swap.split p2).third)
      have u0 : cur[j * 5]? = some (.int .i64 x.kind) := hq 0 _ rfl
      have u1 : cur[j * 5 + 1]? = some (.string x.name) := hq 1 _ rfl
      have u2 : cur[j * 5 + 2]? = some (.int .i64 x.arg.kind) := hq 2 _ rfl
      have u3 : cur[j * 5 + 3]? = some (.int .i64 x.arg.num) := hq 3 _ rfl
      have u4 : cur[j * 5 + 4]? = some (.string x.arg.text) := hq 4 _ rfl
      have c0 := (sub_cell HS1.out.fst (if_pos rfl) (j * 5)).trans u0
      have hf := sub_frozen HS1.out.fst (if_pos rfl)
      have hlt : g < wr.heap.size := sub_lt HS1.out.fst (if_pos rfl)
      have HB := Kp.mk hback
      clear hn hq hE p1 p2 hback
      go_wp2_with fail
      refine (markText_calls (k + 5 * j + 1) (by omega) (by omega) _).mono ?_
      rintro e w1 ⟨rfl, hb⟩
      have HS2 := Kp.mk ((HS1.out.sto (j * 5) (.int .i64 (k + 5 * j))).quiet hb)
      have d1 := ((sub_cell HS2.out.fst (if_pos rfl) (j * 5 + 1)).trans (Array.getElem?_setIfInBounds_ne (by omega))).trans u1
      have d2 := ((sub_cell HS2.out.fst (if_pos rfl) (j * 5 + 2)).trans (Array.getElem?_setIfInBounds_ne (by omega))).trans u2
      have d3 := ((sub_cell HS2.out.fst (if_pos rfl) (j * 5 + 3)).trans (Array.getElem?_setIfInBounds_ne (by omega))).trans u3
      have hf1 := sub_frozen HS2.out.fst (if_pos rfl)
      clear hb c0 hf
      go_wp2_with fail
      refine (markText_calls (k + 5 * j + 1 + 1 + 1 + 1) (by omega) (by omega) _).mono ?_
      rintro e w2 ⟨rfl, hb⟩
      have HS3 := Kp.mk ((((HS2.out.sto (j * 5 + 1) (.string (mt (k + 5 * j + 1)))).sto (j * 5 + 2) (.int .i64 (k + 5 * j + 1 + 1))).sto (j * 5 + 2 + 1) (.int .i64 (k + 5 * j + 1 + 1 + 1))).quiet hb)
      have e4 : w2.cell? ⟨g, j * 5 + 4, none⟩ = some (.string x.arg.text) := by
        rw [sub_cell HS3.out.fst (if_pos rfl) (j * 5 + 4), Array.getElem?_setIfInBounds_ne (by omega), Array.getElem?_setIfInBounds_ne (by omega), Array.getElem?_setIfInBounds_ne (by omega), Array.getElem?_setIfInBounds_ne (by omega), u4]
      have hf2 := sub_frozen HS3.out.fst (if_pos rfl)
      clear hb d1 d2 d3 hf1 u0 u1 u2 u3 u4
      go_wp2
      obtain ⟨t1, t2, HS5⟩ := (HS3.out.sto (j * 5 + 2 + 2) (.string (mt (k + 5 * j + 1 + 1 + 1 + 1)))).shut
      have hO2 := HB.out g1 (mkCmd (k + 5 * (j : Int))) (mkCmd (k + 5 * (j : Int))).cells _ (cmdEl_mk _ _ _) (setA_list (mkCmd (k + 5 * (j : Int))).cells (j * 5) cur hsz) t1 t2
      rw [marked_set (fun i : Nat => mkCmd (k + 5 * (i : Int))) l hjn] at hO2
      go_roundg (l.length + 1 - (j + 1))
      case measure => have := hk'.out; omega
      case rel => exact ⟨j + 1, _, by go_num, by omega, rfl, by rw [show k + 5 * ((j + 1 : Nat) : Int) = k + 5 * (j : Int) + 1 + 1 + 1 + 1 + 1 by omega], ⟨hO2⟩, ⟨HS5⟩⟩
    · obtain rfl : j = l.length := by omega
      go_wp2
      go_ret
      have hO := HO.out
      rw [List.drop_length, List.append_nil] at hO
      exact ⟨h', rfl, hO, HS.out.step⟩
set_option maxHeartbeats 3000000 in
set_option maxRecDepth 100000 in
theorem markPairS_calls {h : Hp} {v : Value} {l : List Pair_} (k : Int) (h0 : 0 < k) (hk : k + 4 * l.length < 10000000000000) (hl : l.length ≤ 1048576) (ho : Own 68 pairEl h v l) (w : World) (hs : Sub h w) : Calls Try.prog 25 #[v, .int .i64 k] w (Marks 68 pairEl h v (k + 4 * l.length) (mPairs k l.length) w) := by
  obtain ⟨A, c, rfl⟩ := ho.rd.slice
  have HS := Kp.mk (Holds.start hs)
  have HO := Kp.mk ho
  clear hs
  go_enter Try.func25, Try.ntmps25
  go_wp2
  go_loopg [1, 5] (l.length + 1) (fun g k' i wr => ∃ (j : Nat) (h' : Hp), i = .int .i64 j ∧ j ≤ l.length ∧ g = l.length + 1 - j ∧ k' = .int .i64 (k + 4 * j) ∧ Kp (Own 68 pairEl h' (.slice A l.length c) ((List.range j).map (fun i : Nat => mkPair (k + 4 * (i : Int))) ++ l.drop j)) ∧ Kp (Holds h w wr [] [h']))
  case atStart => exact ⟨0, h, rfl, by omega, by omega, by simp, by simpa using HO, HS⟩
  case round =>
    clear HS HO
    obtain ⟨j, h', rfl, hj, hk, rfl, HO, HS⟩ := hrel
    have hk' := Kp.mk hk
    clear hk
    by_cases hjn : j < l.length
    · obtain ⟨x, hx⟩ : ∃ x, l[j]? = some x := ⟨_, List.getElem?_eq_getElem hjn⟩
      obtain ⟨g, cap, cur, hin, g1, g2, cs, hv, hsz, p1, p2, hE, hq, hback⟩ := HO.out.edit (marked_at _ l hx)
      injection hv with hA hn hc
      subst hA; subst hc
      obtain rfl := pairEl_open hE
      have HS1 := Kp.mk (((HS.out.split p1).swap.split p2).third)
      have u0 : cur[j * 4]? = some (.string x.name) := hq 0 _ rfl
      have u1 : cur[j * 4 + 1]? = some (.int .i64 x.value.kind) := hq 1 _ rfl
      have u2 : cur[j * 4 + 2]? = some (.int .i64 x.value.num) := hq 2 _ rfl
      have u3 : cur[j * 4 + 3]? = some (.string x.value.text) := hq 3 _ rfl
      have HB := Kp.mk hback
      clear hn hq hE p1 p2 hback
      go_wp2_with fail
      refine (markText_calls (k + 4 * j) (by omega) (by omega) _).mono ?_
      rintro e w1 ⟨rfl, hb⟩
      have HS2 := Kp.mk (HS1.out.quiet hb)
      have d0 := (sub_cell HS2.out.fst (if_pos rfl) (j * 4)).trans u0
      have d1 := (sub_cell HS2.out.fst (if_pos rfl) (j * 4 + 1)).trans u1
      have d2 := (sub_cell HS2.out.fst (if_pos rfl) (j * 4 + 2)).trans u2
      have hf1 := sub_frozen HS2.out.fst (if_pos rfl)
      clear hb
      go_wp2_with fail
      refine (markText_calls (k + 4 * j + 1 + 1 + 1) (by omega) (by omega) _).mono ?_
      rintro e w2 ⟨rfl, hb⟩
      have HS3 := Kp.mk ((((HS2.out.sto (j * 4) (.string (mt (k + 4 * j)))).sto (j * 4 + 1) (.int .i64 (k + 4 * j + 1))).sto (j * 4 + 1 + 1) (.int .i64 (k + 4 * j + 1 + 1))).quiet hb)
      have e3 : w2.cell? ⟨g, j * 4 + 3, none⟩ = some (.string x.value.text) := by
        rw [sub_cell HS3.out.fst (if_pos rfl) (j * 4 + 3), Array.getElem?_setIfInBounds_ne (by omega), Array.getElem?_setIfInBounds_ne (by omega), Array.getElem?_setIfInBounds_ne (by omega), u3]
      have hf2 := sub_frozen HS3.out.fst (if_pos rfl)
      clear hb d0 d1 d2 hf1 u0 u1 u2 u3
      go_wp2
      obtain ⟨t1, t2, HS5⟩ := (HS3.out.sto (j * 4 + 1 + 2) (.string (mt (k + 4 * j + 1 + 1 + 1)))).shut
      have hO2 := HB.out g1 (mkPair (k + 4 * (j : Int))) (mkPair (k + 4 * (j : Int))).cells _ (pairEl_mk _ _ _) (setA_list (mkPair (k + 4 * (j : Int))).cells (j * 4) cur hsz) t1 t2
      rw [marked_set (fun i : Nat => mkPair (k + 4 * (i : Int))) l hjn] at hO2
      go_roundg (l.length + 1 - (j + 1))
      case measure => have := hk'.out; omega
      case rel => exact ⟨j + 1, _, by go_num, by omega, rfl, by rw [show k + 4 * ((j + 1 : Nat) : Int) = k + 4 * (j : Int) + 1 + 1 + 1 + 1 by omega], ⟨hO2⟩, ⟨HS5⟩⟩
    · obtain rfl : j = l.length := by omega
      go_wp2
      go_ret
      have hO := HO.out
      rw [List.drop_length, List.append_nil] at hO
      exact ⟨h', rfl, hO, HS.out.step⟩
end Go.Proofs.Ytccioimicdggkaa.C
