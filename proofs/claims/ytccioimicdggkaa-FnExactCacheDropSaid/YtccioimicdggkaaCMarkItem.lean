/- The marking of a cache's items. -/
import Derived.Test.YtccioimicdggkaaCMark
namespace Go.Proofs.Ytccioimicdggkaa.C
open Go.RowKit
set_option linter.unusedVariables false
set_option linter.unusedSimpArgs false
def stepOf (x : Item) : Nat := 8 + 5 * x.out.cmds.length + 4 * x.out.vars.length
def mkItem (K : Int) (x : Item) : Item :=
  ⟨K, K + 1, ⟨mCmds (K + 1 + 1) x.out.cmds.length, K + 1 + 1 + 5 * x.out.cmds.length, ⟨K + 1 + 1 + 5 * x.out.cmds.length + 1, K + 1 + 1 + 5 * x.out.cmds.length + 1 + 1, mt (K + 1 + 1 + 5 * x.out.cmds.length + 1 + 1 + 1)⟩,
    mt (K + 1 + 1 + 5 * x.out.cmds.length + 1 + 1 + 1 + 1), mPairs (K + 1 + 1 + 5 * x.out.cmds.length + 1 + 1 + 1 + 1 + 1) x.out.vars.length, K + 1 + 1 + 5 * x.out.cmds.length + 1 + 1 + 1 + 1 + 1 + 4 * x.out.vars.length⟩⟩
def pos (K : Int) (l : List Item) (j : Nat) : Int := K + ((l.take j).map stepOf).sum
def mItem (K : Int) (l : List Item) (j : Nat) : Item := mkItem (pos K l j) (l.getD j zItem)
def mItems (K : Int) (l : List Item) : List Item := (List.range l.length).map (mItem K l)
theorem pos_succ (K : Int) {l : List Item} {j : Nat} {x : Item} (h : l[j]? = some x) : pos K l (j + 1) = pos K l j + stepOf x := by
  unfold pos
  rw [sumBy_take stepOf h]; omega
theorem pos_le (K : Int) (l : List Item) (j : Nat) : K ≤ pos K l j ∧ pos K l j ≤ K + (l.map stepOf).sum := by
  unfold pos
  have h : (l.map stepOf).sum = ((l.take j).map stepOf).sum + ((l.drop j).map stepOf).sum := by
    rw [← List.sum_append, ← List.map_append, List.take_append_drop]
  omega
theorem mItem_at (K : Int) {l : List Item} {j : Nat} {x : Item} (h : l[j]? = some x) : mItem K l j = mkItem (pos K l j) x := by
  unfold mItem
  rw [List.getD_eq_getElem?_getD, h]; rfl
set_option maxHeartbeats 3000000 in
set_option maxRecDepth 100000 in
theorem markItemS_calls {h : Hp} {v : Value} {l : List Item} (k : Int) (h0 : 0 < k) (hk : k + (l.map stepOf).sum < 10000000000000) (hl : l.length ≤ 1048576) (hlen : ∀ x ∈ l, x.out.cmds.length ≤ 1048576 ∧ x.out.vars.length ≤ 1048576) (ho : Own 44 itEl h v l) (w : World) (hs : Sub h w) : Calls Try.prog 16 #[v, .int .i64 k] w (Marks 44 itEl h v (pos k l l.length) (mItems k l) w) := by
  obtain ⟨A, c, rfl⟩ := ho.rd.slice
  have HS := Kp.mk (Holds.start hs)
  have HO := Kp.mk ho
  clear hs
  go_enter Try.func16, Try.ntmps16
  go_wp2
  go_loopg [1, 5] (l.length + 1) (fun g k' i wr => ∃ (j : Nat) (h' : Hp) (K : Int), i = .int .i64 j ∧ j ≤ l.length ∧ g = l.length + 1 - j ∧ k' = .int .i64 K ∧ Kp (K = pos k l j) ∧ Kp (Own 44 itEl h' (.slice A l.length c) ((List.range j).map (mItem k l) ++ l.drop j)) ∧ Kp (Holds h w wr [] [h']))
  case atStart => exact ⟨0, h, k, rfl, by omega, by omega, rfl, ⟨by simp [pos]⟩, by simpa using HO, HS⟩
  case round =>
    clear HS HO
    obtain ⟨j, h', K, rfl, hj, hk, rfl, HK, HO, HS⟩ := hrel
    have hk' := Kp.mk hk
    clear hk
    by_cases hjn : j < l.length
    · obtain ⟨x, hx⟩ : ∃ x, l[j]? = some x := ⟨_, List.getElem?_eq_getElem hjn⟩
      obtain ⟨g, cap, cur, hin, g1, g2, cs, hv, hsz, p1, p2, hE, hq, hback⟩ := HO.out.edit (marked_at _ l hx)
      injection hv with hA hn hc
      subst hA; subst hc
      obtain ⟨v1, v2, k1, k2, rfl, pk, R1, R2⟩ := itemEl_open hE
      obtain ⟨y1, f1, rfl⟩ := R1.rd.slice
      obtain ⟨y2, f2, rfl⟩ := R2.rd.slice
      have HS1 := Kp.mk ((((((HS.out.split p1).swap.split p2).third).swap).split pk).third)
      have hl2 := hlen x (List.mem_of_getElem? hx)
      have hb1 := (pos_le k l j)
      have hb2 := (pos_le k l (j + 1)).2
      rw [pos_succ k hx, ← HK.out] at hb2
      rw [← HK.out] at hb1
      rw [show stepOf x = 8 + 5 * x.out.cmds.length + 4 * x.out.vars.length from rfl] at hb2
      have u0 : cur[j * 10]? = some (.int .i64 x.run) := hq 0 _ rfl
      have u1 : cur[j * 10 + 1]? = some (.int .i64 x.many) := hq 1 _ rfl
      have u2 : cur[j * 10 + 2]? = some (.slice y1 x.out.cmds.length f1) := hq 2 _ rfl
      have u3 : cur[j * 10 + 3]? = some (.int .i64 x.out.status) := hq 3 _ rfl
      have u4 : cur[j * 10 + 4]? = some (.int .i64 x.out.value.kind) := hq 4 _ rfl
      have u5 : cur[j * 10 + 5]? = some (.int .i64 x.out.value.num) := hq 5 _ rfl
      have u6 : cur[j * 10 + 6]? = some (.string x.out.value.text) := hq 6 _ rfl
      have u7 : cur[j * 10 + 7]? = some (.string x.out.on) := hq 7 _ rfl
      have u8 : cur[j * 10 + 8]? = some (.slice y2 x.out.vars.length f2) := hq 8 _ rfl
      have u9 : cur[j * 10 + 9]? = some (.int .i64 x.out.fuel) := hq 9 _ rfl
      have c0 := (sub_cell HS1.out.fst (if_pos rfl) (j * 10)).trans u0
      have c1 := (sub_cell HS1.out.fst (if_pos rfl) (j * 10 + 1)).trans u1
      have c2 := (sub_cell HS1.out.fst (if_pos rfl) (j * 10 + 2)).trans u2
      have hf := sub_frozen HS1.out.fst (if_pos rfl)
      have HB := Kp.mk hback
      have HN := Kp.mk hq
      have HHB := Kp.mk hb2
      have HHK := Kp.mk hk
      have hK1 : 0 < K := by omega
      have hK3 : K + (8 + 5 * (x.out.cmds.length : Int) + 4 * (x.out.vars.length : Int)) < 10000000000000 := by omega
      have hK2 : K < 10000000000000 := by omega
      clear hn hq hE p1 p2 hback pk hb1 hb2
      go_wp2_with fail
      refine (markCmdS_calls (K + 1 + 1) (by omega) (by omega) hl2.1 R1 _ (((HS1.out.sto (j * 10) (.int .i64 K)).sto (j * 10 + 1) (.int .i64 (K + 1))).snd)).mono ?_
      rintro e w1 ⟨k1', rfl, O1, S1⟩
      have HS2 := Kp.mk ((((HS1.out.sto (j * 10) (.int .i64 K)).sto (j * 10 + 1) (.int .i64 (K + 1))).swap.call S1).swap)
      have HO1 := Kp.mk O1
      replace HS2 := Kp.mk (HS2.out.same (i := j * 10 + 2) (v := .slice y1 x.out.cmds.length f1) (by rw [Array.getElem?_setIfInBounds_ne (by omega), Array.getElem?_setIfInBounds_ne (by omega), u2]))
      have d3 : w1.cell? ⟨g, j * 10 + 3, none⟩ = some (.int .i64 x.out.status) := by rw [sub_cell HS2.out.fst (if_pos rfl) (j * 10 + 3), Array.getElem?_setIfInBounds_ne (by omega), Array.getElem?_setIfInBounds_ne (by omega), Array.getElem?_setIfInBounds_ne (by omega), u3]
      have d4 : w1.cell? ⟨g, j * 10 + 4, none⟩ = some (.int .i64 x.out.value.kind) := by rw [sub_cell HS2.out.fst (if_pos rfl) (j * 10 + 4), Array.getElem?_setIfInBounds_ne (by omega), Array.getElem?_setIfInBounds_ne (by omega), Array.getElem?_setIfInBounds_ne (by omega), u4]
      have d5 : w1.cell? ⟨g, j * 10 + 5, none⟩ = some (.int .i64 x.out.value.num) := by rw [sub_cell HS2.out.fst (if_pos rfl) (j * 10 + 5), Array.getElem?_setIfInBounds_ne (by omega), Array.getElem?_setIfInBounds_ne (by omega), Array.getElem?_setIfInBounds_ne (by omega), u5]
      have hf1 := sub_frozen HS2.out.fst (if_pos rfl)
      clear O1 S1 c0 c1 c2 hf
      go_wp2_with fail
      refine (markText_calls (K + 1 + 1 + 5 * (x.out.cmds.length : Int) + 1 + 1 + 1) (by omega) (by omega) _).mono ?_
      rintro e w2 ⟨rfl, hb⟩
      have HS3 := Kp.mk ((((HS2.out.sto (j * 10 + 2 + 1) (.int .i64 (K + 1 + 1 + 5 * (x.out.cmds.length : Int)))).sto (j * 10 + 4) (.int .i64 (K + 1 + 1 + 5 * (x.out.cmds.length : Int) + 1))).sto (j * 10 + 2 + 2 + 1) (.int .i64 (K + 1 + 1 + 5 * (x.out.cmds.length : Int) + 1 + 1))).quiet hb)
      have e6 : w2.cell? ⟨g, j * 10 + 6, none⟩ = some (.string x.out.value.text) := by rw [sub_cell HS3.out.fst (if_pos rfl) (j * 10 + 6), Array.getElem?_setIfInBounds_ne (by omega), Array.getElem?_setIfInBounds_ne (by omega), Array.getElem?_setIfInBounds_ne (by omega), Array.getElem?_setIfInBounds_ne (by omega), Array.getElem?_setIfInBounds_ne (by omega), Array.getElem?_setIfInBounds_ne (by omega), u6]
      have hf2 := sub_frozen HS3.out.fst (if_pos rfl)
      clear hb d3 d4 d5 hf1
      go_wp2_with fail
      refine (markText_calls (K + 1 + 1 + 5 * (x.out.cmds.length : Int) + 1 + 1 + 1 + 1) (by omega) (by omega) _).mono ?_
      rintro e w3 ⟨rfl, hb⟩
      have HS4 := Kp.mk ((HS3.out.sto (j * 10 + 2 + 2 + 2) (.string (mt (K + 1 + 1 + 5 * (x.out.cmds.length : Int) + 1 + 1 + 1)))).quiet hb)
      have g7 : w3.cell? ⟨g, j * 10 + 7, none⟩ = some (.string x.out.on) := by rw [sub_cell HS4.out.fst (if_pos rfl) (j * 10 + 7), Array.getElem?_setIfInBounds_ne (by omega), Array.getElem?_setIfInBounds_ne (by omega), Array.getElem?_setIfInBounds_ne (by omega), Array.getElem?_setIfInBounds_ne (by omega), Array.getElem?_setIfInBounds_ne (by omega), Array.getElem?_setIfInBounds_ne (by omega), Array.getElem?_setIfInBounds_ne (by omega), u7]
      have g8 : w3.cell? ⟨g, j * 10 + 8, none⟩ = some (.slice y2 x.out.vars.length f2) := by rw [sub_cell HS4.out.fst (if_pos rfl) (j * 10 + 8), Array.getElem?_setIfInBounds_ne (by omega), Array.getElem?_setIfInBounds_ne (by omega), Array.getElem?_setIfInBounds_ne (by omega), Array.getElem?_setIfInBounds_ne (by omega), Array.getElem?_setIfInBounds_ne (by omega), Array.getElem?_setIfInBounds_ne (by omega), Array.getElem?_setIfInBounds_ne (by omega), u8]
      have hf3 := sub_frozen HS4.out.fst (if_pos rfl)
      clear hb e6 hf2
      go_wp2_with fail
      refine (markPairS_calls (K + 1 + 1 + 5 * (x.out.cmds.length : Int) + 1 + 1 + 1 + 1 + 1) (by omega) (by omega) hl2.2 R2 _ ((HS4.out.sto (j * 10 + 2 + 5) (.string (mt (K + 1 + 1 + 5 * (x.out.cmds.length : Int) + 1 + 1 + 1 + 1)))).tail.snd)).mono ?_
      rintro e w4 ⟨k2', rfl, O2, S2⟩
      have HS5 := ((HS4.out.sto (j * 10 + 2 + 5) (.string (mt (K + 1 + 1 + 5 * (x.out.cmds.length : Int) + 1 + 1 + 1 + 1)))).third.call S2).third.third
      replace HS5 := Kp.mk (HS5.same (i := j * 10 + 8) (v := .slice y2 x.out.vars.length f2) (by rw [Array.getElem?_setIfInBounds_ne (by omega), Array.getElem?_setIfInBounds_ne (by omega), Array.getElem?_setIfInBounds_ne (by omega), Array.getElem?_setIfInBounds_ne (by omega), Array.getElem?_setIfInBounds_ne (by omega), Array.getElem?_setIfInBounds_ne (by omega), Array.getElem?_setIfInBounds_ne (by omega), Array.getElem?_setIfInBounds_ne (by omega), u8]))
      have HO2 := Kp.mk O2
      have i9 : w4.cell? ⟨g, j * 10 + 9, none⟩ = some (.int .i64 x.out.fuel) := by rw [sub_cell HS5.out.fst (if_pos rfl) (j * 10 + 9), Array.getElem?_setIfInBounds_ne (by omega), Array.getElem?_setIfInBounds_ne (by omega), Array.getElem?_setIfInBounds_ne (by omega), Array.getElem?_setIfInBounds_ne (by omega), Array.getElem?_setIfInBounds_ne (by omega), Array.getElem?_setIfInBounds_ne (by omega), Array.getElem?_setIfInBounds_ne (by omega), Array.getElem?_setIfInBounds_ne (by omega), Array.getElem?_setIfInBounds_ne (by omega), u9]
      have hf4 := sub_frozen HS5.out.fst (if_pos rfl)
      clear O2 S2 g7 g8 hf3 u0 u1 u2 u3 u4 u5 u6 u7 u8 u9
      go_wp2
      have HS6 := (HS5.out.sto (j * 10 + 2 + 7) (.int .i64 (K + 1 + 1 + 5 * (x.out.cmds.length : Int) + 1 + 1 + 1 + 1 + 1 + 4 * (x.out.vars.length : Int)))).third.third
      have hY := itemEl_mk (b := true) (mkItem K x) (Part.cup HS6.disj) HO1.out HO2.out
      obtain ⟨t1, t2, HS7⟩ := HS6.join.swap.shut
      have eL := setA_list [.int .i64 K, .int .i64 (K + 1), .slice y1 x.out.cmds.length f1, .int .i64 (K + 1 + 1 + 5 * (x.out.cmds.length : Int)), .int .i64 (K + 1 + 1 + 5 * (x.out.cmds.length : Int) + 1), .int .i64 (K + 1 + 1 + 5 * (x.out.cmds.length : Int) + 1 + 1), .string (mt (K + 1 + 1 + 5 * (x.out.cmds.length : Int) + 1 + 1 + 1)), .string (mt (K + 1 + 1 + 5 * (x.out.cmds.length : Int) + 1 + 1 + 1 + 1)), .slice y2 x.out.vars.length f2, .int .i64 (K + 1 + 1 + 5 * (x.out.cmds.length : Int) + 1 + 1 + 1 + 1 + 1 + 4 * (x.out.vars.length : Int))] (j * 10) cur hsz
      simp only [setA, Nat.add_assoc, Nat.reduceAdd] at eL
      simp only [Nat.add_assoc, Nat.reduceAdd] at t1 t2 HS7
      have hO3 := HB.out _ (mkItem K x) _ _ hY (by exact eL) t1 t2
      rw [show mkItem K x = mItem k l j by rw [mItem_at k hx, ← HK.out], marked_set (mItem k l) l hjn] at hO3
      go_roundg (l.length + 1 - (j + 1))
      case measure => have := hk'.out; omega
      case rel => exact ⟨j + 1, _, _, by go_num, by omega, rfl, rfl, ⟨by rw [pos_succ k hx, ← HK.out]; unfold stepOf; omega⟩, ⟨hO3⟩, ⟨HS7⟩⟩
    · obtain rfl : j = l.length := by omega
      go_wp2
      go_ret
      have hO := HO.out
      rw [List.drop_length, List.append_nil] at hO
      exact ⟨h', by rw [← HK.out]; rfl, hO, HS.out.step⟩
end Go.Proofs.Ytccioimicdggkaa.C
