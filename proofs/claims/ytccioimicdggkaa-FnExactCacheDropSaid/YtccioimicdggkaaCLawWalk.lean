/- The law's own walk: it returns true for every cache that reads and every run. -/
import Derived.Test.YtccioimicdggkaaCHeldItem
import Derived.Deep.RegionHeld3
namespace Go.Proofs.Ytccioimicdggkaa.C
open Go.RowKit
set_option linter.unusedVariables false
set_option linter.unusedSimpArgs false
theorem sum_le {α : Type} (f : α → Nat) (B : Nat) : ∀ l : List α, (∀ x ∈ l, f x ≤ B) → (l.map f).sum ≤ l.length * B
  | [], _ => by simp
  | x :: l, h => by
    have h1 := sum_le f B l (fun y hy => h y (by simp [hy]))
    have h2 := h x (by simp)
    simp only [List.map_cons, List.sum_cons, List.length_cons, Nat.add_mul]; omega
theorem mem_le_sum {α : Type} (f : α → Nat) : ∀ {l : List α} {x : α}, x ∈ l → f x ≤ (l.map f).sum
  | y :: l, x, h => by
    simp only [List.map_cons, List.sum_cons]
    rcases List.mem_cons.1 h with rfl | h
    · omega
    · have := mem_le_sum f h; omega
theorem room {l : List Item} (h : sumBy (fun x => x.out.sz) l ≤ 1048576) : l.length ≤ 1048576 ∧ ∀ x ∈ l, x.out.cmds.length ≤ 1048576 ∧ x.out.vars.length ≤ 1048576 := by
  unfold sumBy at h
  refine ⟨by omega, fun x hx => ?_⟩
  have h1 := mem_le_sum (fun x : Item => x.out.sz) hx
  have h2 : x.out.sz ≤ 1048576 := Nat.le_trans h1 (by omega)
  unfold Out.sz sumBy at h2
  omega
theorem room_without {l : List Item} (run : Int) (h : l.length ≤ 1048576 ∧ ∀ x ∈ l, x.out.cmds.length ≤ 1048576 ∧ x.out.vars.length ≤ 1048576) :
    (without run l).length ≤ 1048576 ∧ ∀ x ∈ without run l, x.out.cmds.length ≤ 1048576 ∧ x.out.vars.length ≤ 1048576 :=
  ⟨Nat.le_trans (List.length_filter_le _ _) h.1, fun x hx => h.2 x ((List.mem_filter.1 hx).1)⟩
theorem room_sum {l : List Item} (h : l.length ≤ 1048576 ∧ ∀ x ∈ l, x.out.cmds.length ≤ 1048576 ∧ x.out.vars.length ≤ 1048576) : (1 : Int) + ((l.map stepOf).sum : Nat) < 10000000000000 := by
  have h1 := sum_le stepOf 9437192 l (fun x hx => by have := h.2 x hx; unfold stepOf; omega)
  have h2 : l.length * 9437192 ≤ 1048576 * 9437192 := Nat.mul_le_mul_right _ h.1
  omega
theorem pos_pos (l : List Item) (j : Nat) : ¬ (pos 1 l j < 0) := by have := (pos_le 1 l j).1; omega
set_option maxHeartbeats 8000000 in
set_option maxRecDepth 100000 in
theorem law_calls {h : Hp} {tc tp : TypeId} {v : Value} {l : List Item} (run : Int) (hr : Rd (itemEl tc tp) h v l) (hok : ∀ x ∈ l, x.out.ok) (w : World) (hs : Sub h w) : Calls Try.prog 3 #[.agg #[v], .int .i64 run] w (Yes w) := by
  obtain ⟨A, c, rfl⟩ := hr.slice
  have HS0 := Kp.mk ((Holds.start0 w).make (Step.new w (.cells #[.slice A l.length c] 24)))
  go_enter Try.func3, Try.ntmps3
  go_wp2_with fail
  refine (szCache_calls 1048576 (by omega) (by omega) hr hok _ (HS0.out.came0 hs)).mono ?_
  rintro e w1 ⟨r, rfl, hrr, hb⟩
  have HS1 := Kp.mk (HS0.out.quiet hb)
  clear hb HS0
  obtain ⟨p1, p2, p3⟩ := box1 HS1.out.fst
  rcases hrr with rfl | ⟨h0, hsum⟩
  · go_wp2
    go_ret
    exact ⟨rfl, HS1.out.below⟩
  have hR := Kp.mk (room (l := l) (by omega))
  have hR2 := Kp.mk (room_without run hR.out)
  have hr0 : ¬ r < 0 := by omega
  clear hsum
  go_wp2_with fail
  refine (toCache_calls hr hR.out.1 hR.out.2 _ (HS1.out.came0 hs)).mono ?_
  rintro e w2 ⟨va, ha, rfl, Oa, S⟩
  have HS2 := Kp.mk (HS1.out.make S)
  clear S p1 p2 p3
  go_wp2_with fail
  refine (specDrop_calls run Oa.rd hR.out.1 hR.out.2 _ HS2.out.fst).mono ?_
  rintro e w3 ⟨vw, hw, rfl, Ow, S⟩
  have HS3 := Kp.mk (((HS2.out.make S).swap.tail).make (Step.new _ (.cells #[vw] 28)))
  obtain ⟨Aw, cw, rfl⟩ := Ow.rd.slice
  obtain ⟨p1, p2, p3⟩ := box1 HS3.out.tail.snd
  clear S HS2 Oa
  go_wp2_with fail
  refine (toCache_calls hr hR.out.1 hR.out.2 _ (HS3.out.came0 hs)).mono ?_
  rintro e w4 ⟨vx, hx, rfl, Ox, S⟩
  have HS4 := Kp.mk ((HS3.out.make S).make (Step.new _ (.cells #[vx] 28)))
  obtain ⟨Ax, cx, rfl⟩ := Ox.rd.slice
  clear S HS3 p1 p2 p3
  go_wp2_with fail
  refine (CacheDrop_calls run Ox.rd hR.out.1 hR.out.2 _ HS4.out.snd).mono ?_
  rintro e w5 ⟨vg, hg, rfl, Og, S⟩
  have HS5 := Kp.mk ((HS4.out.make S).make (Step.new _ (.cells #[vg] 28)))
  obtain ⟨Ag, cg, rfl⟩ := Og.rd.slice
  obtain ⟨p1, p2, p3⟩ := box1 HS5.out.tail.tail.tail.snd
  clear S HS4
  go_wp2_with fail
  refine (eqCache_calls Og.rd Ow.rd _ HS5.out.snd (HS5.out.sub hw (by simp))).mono ?_
  rintro e w6 ⟨rfl, hb⟩
  have HS6 := Kp.mk (HS5.out.quiet hb)
  obtain ⟨q1, q2, q3⟩ := box1 HS6.out.tail.snd
  obtain ⟨s1, s2, s3⟩ := box1 HS6.out.tail.tail.tail.tail.tail.snd
  clear hb HS5 p1 p2 p3
  go_wp2_with fail
  go_region_held3 (fun w' => w'.cell? ⟨w4.heap.size, 0, none⟩ = some (.slice Ax l.length cx) ∧ w'.cell? ⟨w.heap.size, 0, none⟩ = some (.slice A l.length c) ∧
      Kp (Holds emp w w' [] [one w5.heap.size (.cells #[.slice Ag (without run l).length cg] 28), hg, one w4.heap.size (.cells #[.slice Ax l.length cx] 28), hx, one w3.heap.size (.cells #[.slice Aw (without run l).length cw] 28), hw, one w.heap.size (.cells #[.slice A l.length c] 24)]))
    (first | exact ⟨q1, s1, HS6⟩ | exact ⟨q1, s1, ⟨HS6.out.drew⟩⟩ | exact ⟨q3', s3', HS7⟩ | exact ⟨q4', s4', HS8⟩)
    (first
      | (go_at_call 6; (refine (toCache_calls hr hR.out.1 hR.out.2 _ (HS6.out.drew.came0 hs)).mono ?_; rintro e w7 ⟨vy, hy, rfl, Oy, S⟩; have HS7 := Kp.mk ((HS6.out.drew.make S).tail); have HY := Kp.mk S.sub; obtain ⟨Ay, cy, rfl⟩ := Oy.rd.slice; have q3' := (box1 HS7.out.tail.snd).1; have s3' := (box1 HS7.out.tail.tail.tail.tail.tail.snd).1; clear S))
      | (go_at_call 8; (refine (eqCache_calls Ox.rd Oy.rd _ HS7.out.tail.tail.snd HY.out).mono ?_; rintro e w8 ⟨rfl, hb⟩; have HS8 := Kp.mk (HS7.out.quiet hb); have q4' := (box1 HS8.out.tail.snd).1; have s4' := (box1 HS8.out.tail.tail.tail.tail.tail.snd).1; clear hb)))
  clear q1 q2 q3 s1 s2 s3 q3' s3' s4' HS6 HS7 HY Oy
  have hm := Kp.mk (room_sum hR.out)
  have hm2 := Kp.mk (room_sum hR2.out)
  have hp1 := pos_pos l l.length
  have hp2 := pos_pos (without run l) (without run l).length
  go_wp2_with fail
  refine (markCache_calls 1 (by omega) hm.out hR.out.1 hR.out.2 Ox _ HS8.out.fourth.fst).mono ?_
  rintro e w9 ⟨hx2, rfl, Ox2, S⟩
  have HS9 := Kp.mk ((HS8.out.fourth.call S).tail)
  obtain ⟨p1, p2, p3⟩ := box1 HS9.out.fst
  obtain ⟨q1, q2, q3⟩ := box1 HS9.out.tail.tail.snd
  clear S HS8 q4' Ox2 Ox
  go_wp2_with fail
  refine (eqCache_calls Og.rd Ow.rd _ HS9.out.snd (HS9.out.sub hw (by simp))).mono ?_
  rintro e w10 ⟨rfl, hb⟩
  have HS10 := Kp.mk (HS9.out.quiet hb)
  clear hb HS9 p1 p2 p3 q1 q2 q3
  obtain ⟨p1, p2, p3⟩ := box1 HS10.out.fst
  go_wp2_with fail
  refine (markCache_calls 1 (by omega) hm2.out hR2.out.1 hR2.out.2 Og _ HS10.out.swap.fst).mono ?_
  rintro e w11 ⟨hg2, rfl, Og2, S⟩
  have HS11 := Kp.mk (HS10.out.swap.call S)
  clear S HS10 p1 p2 p3 Og
  obtain ⟨p1, p2, p3⟩ := box1 HS11.out.snd
  go_wp2_with fail
  refine (heldCache_calls 1 (by omega) hm2.out hR2.out.1 hR2.out.2 Og2.rd _ HS11.out.fst).mono ?_
  rintro e w12 ⟨rfl, hb⟩
  have HS12 := Kp.mk (HS11.out.quiet hb)
  clear hb HS11 p1 p2 p3
  obtain ⟨p1, p2, p3⟩ := box1 (HS12.out.sub (one w.heap.size (.cells #[.slice A l.length c] 24)) (by simp))
  go_wp2_with fail
  refine (toCache_calls hr hR.out.1 hR.out.2 _ (HS12.out.came0 hs)).mono ?_
  rintro e w13 ⟨vz, hz, rfl, Oz, S⟩
  have HS13 := Kp.mk (HS12.out.make S)
  clear S HS12 p1 p2 p3
  go_wp2_with fail
  refine (CacheDrop_calls run Oz.rd hR.out.1 hR.out.2 _ HS13.out.fst).mono ?_
  rintro e w14 ⟨vh, hh, rfl, Oh, S⟩
  have HS14 := Kp.mk (((HS13.out.make S).swap.tail).make (Step.new _ (.cells #[vh] 28)))
  obtain ⟨Ah, ch, rfl⟩ := Oh.rd.slice
  obtain ⟨p1, p2, p3⟩ := box1 (HS14.out.sub (one w3.heap.size (.cells #[.slice Aw (without run l).length cw] 28)) (by simp))
  clear S HS13 Oz
  go_wp2_with fail
  refine (eqCache_calls Oh.rd Ow.rd _ HS14.out.snd (HS14.out.sub hw (by simp))).mono ?_
  rintro e w15 ⟨rfl, hb⟩
  have HS15 := Kp.mk (HS14.out.quiet hb)
  clear hb HS14 p1 p2 p3
  obtain ⟨p1, p2, p3⟩ := box1 HS15.out.tail.tail.snd
  go_wp2_with fail
  refine (heldCache_calls 1 (by omega) hm2.out hR2.out.1 hR2.out.2 Og2.rd _ HS15.out.tail.snd).mono ?_
  rintro e w16 ⟨rfl, hb⟩
  have HS16 := Kp.mk (HS15.out.quiet hb)
  clear hb HS15 p1 p2 p3
  go_wp2
  go_ret
  exact ⟨rfl, HS16.out.below⟩
end Go.Proofs.Ytccioimicdggkaa.C
