-- Printed by this session's own program (wip/tools/hybrid.sh) over its own contracts
import Derived.Test.YtidcijicehgfkaaPKx0
import Derived.Test.YtidcijicehgfkaaPKx2
import Derived.Test.YtidcijicehgfkaaPKx3
import Derived.Test.YtidcijicehgfkaaPKx4
import Derived.BigGuardPart
import Derived.Deep.RegionHeld3
import Derived.Deep.RegionWith
import Derived.StillTailTactics
import Derived.WalkMore
namespace Go.Proofs.Ytidcijicehgfkaa.PK
open Go.RowKit Go.Proofs.YtidcijicehgfkaaW.PrintWords Go.Proofs.YtidcijicehgfkaaW.PrintLast Go.Proofs.YtidcijicehgfkaaW.PrintMore
attribute [local go_sem] max2_int min2_int max_two min_two max_three min_three max_four min_four   -- for this text's walks alone
set_option linter.unusedVariables false
set_option linter.unusedSimpArgs false

/-! ### live_Behind: function 28 -/
mutual
def live_Behind.l0 : Nat → List Int → List Int → List (S68) → Int → Int → List Int → Int → List Int → Option (List Int × Int)
 | 0, _, _, _, _, _, _, _, _ => none
 | k + 1, x5, x9, x32, x33, x34, x185000, x185001, x185002 => if x34 < x33 then (if 0 ≤ x34 then (if x34 < (x32.length : Int) then (if x34 < (x5.length : Int) then (live_Behind.l1 k x5 x9 (rd x5 x34) (wrap64 (((rd_T68 x32 x34).f1) - 1)) x32 x33 x34 x185000 x185001 x185002 ((rd_T68 x32 x34).f0) ((rd_T68 x32 x34).f1)) else (none)) else (none)) else (none)) else (some (x9, 0))
def live_Behind.l1 : Nat → List Int → List Int → Int → Int → List (S68) → Int → Int → List Int → Int → List Int → Int → Int → Option (List Int × Int)
 | 0, _, _, _, _, _, _, _, _, _, _, _, _ => none
 | k + 1, x5, x9, x12, x13, x32, x33, x34, x185000, x185001, x185002, x201000, x201001 => if x13 ≥ x201000 then (if 0 ≤ x13 then (if x13 < (x9.length : Int) then (if x13 < (x185000.length : Int) then ((touch_Reads.f k (rd x185000 x13)).bind fun t204 => ((touch_Writes.f k (rd x185000 x13)).bind fun t206 => (live_Behind.l1 k x5 (x9.set (x13 : Int).toNat x12) (Go.bits .or .u16 t204 (Go.bits .andNot .u16 x12 t206)) (wrap64 (x13 - 1)) x32 x33 x34 x185000 x185001 x185002 x201000 x201001))) else (none)) else (none)) else (none)) else (live_Behind.l0 k x5 x9 x32 x33 (wrap64 (x34 + 1)) x185000 x185001 x185002)
end
def live_Behind.f (k : Nat) (l0_0 : List Int) (a0_1 : Int) (l0_2 : List Int) : Option (List Int × Int) := (live_Blocks.f k l0_0 a0_1 l0_2).bind fun bt185 => (if bt185.2.2 = 0 then ((block_Blocks.f k l0_0 a0_1 l0_2).bind fun bt192 => (if 0 ≤ (l0_0.length : Int) then (if ((l0_0.length : Int) : Int).toNat ≤ 140737488355328 then (live_Behind.l0 k bt185.2.1 (List.replicate ((l0_0.length : Int) : Int).toNat 0) bt192.1 (bt192.1.length : Int) 0 l0_0 a0_1 l0_2) else (none)) else (none))) else (some (([] : List Int), bt185.2.2)))
theorem live_Behind.mono_l : ∀ k, (∀ y0 y1 y2 y3 y4 y5 y6 y7, LeO (live_Behind.l0 k y0 y1 y2 y3 y4 y5 y6 y7) (live_Behind.l0 (k + 1) y0 y1 y2 y3 y4 y5 y6 y7)) ∧ (∀ y0 y1 y2 y3 y4 y5 y6 y7 y8 y9 y10 y11, LeO (live_Behind.l1 k y0 y1 y2 y3 y4 y5 y6 y7 y8 y9 y10 y11) (live_Behind.l1 (k + 1) y0 y1 y2 y3 y4 y5 y6 y7 y8 y9 y10 y11))
 | 0 => ⟨fun _ _ _ _ _ _ _ _ r h => by simp [live_Behind.l0] at h, fun _ _ _ _ _ _ _ _ _ _ _ _ r h => by simp [live_Behind.l1] at h⟩
 | k + 1 => by
  obtain ⟨ih0, ih1⟩ := live_Behind.mono_l k
  refine ⟨?_, ?_⟩
  ·intro y0 y1 y2 y3 y4 y5 y6 y7
   unfold live_Behind.l0
   repeat' first
   | (with_reducible exact ih0 _ _ _ _ _ _ _ _)
   | (with_reducible exact ih1 _ _ _ _ _ _ _ _ _ _ _ _)
   | (with_reducible exact block_Blocks.mono _ _ _ _)
   | (with_reducible exact live_Blocks.mono _ _ _ _)
   | (with_reducible exact touch_Reads.mono _ _)
   | (with_reducible exact touch_Writes.mono _ _)
   | (with_reducible exact LeO.refl _)
   | (with_reducible exact LeO.none _)
   | (with_reducible refine LeO.ite ?_ ?_)
   | (with_reducible refine LeO.bind ?_ (fun _ => ?_))
   | exact ih0 _ _ _ _ _ _ _ _
   | exact ih1 _ _ _ _ _ _ _ _ _ _ _ _
   | exact block_Blocks.mono _ _ _ _
   | exact live_Blocks.mono _ _ _ _
   | exact touch_Reads.mono _ _
   | exact touch_Writes.mono _ _
   | exact LeO.none _
   | refine LeO.ite ?_ ?_
   | refine LeO.bind ?_ (fun _ => ?_)
  ·intro y0 y1 y2 y3 y4 y5 y6 y7 y8 y9 y10 y11
   unfold live_Behind.l1
   repeat' first
   | (with_reducible exact ih0 _ _ _ _ _ _ _ _)
   | (with_reducible exact ih1 _ _ _ _ _ _ _ _ _ _ _ _)
   | (with_reducible exact block_Blocks.mono _ _ _ _)
   | (with_reducible exact live_Blocks.mono _ _ _ _)
   | (with_reducible exact touch_Reads.mono _ _)
   | (with_reducible exact touch_Writes.mono _ _)
   | (with_reducible exact LeO.refl _)
   | (with_reducible exact LeO.none _)
   | (with_reducible refine LeO.ite ?_ ?_)
   | (with_reducible refine LeO.bind ?_ (fun _ => ?_))
   | exact ih0 _ _ _ _ _ _ _ _
   | exact ih1 _ _ _ _ _ _ _ _ _ _ _ _
   | exact block_Blocks.mono _ _ _ _
   | exact live_Blocks.mono _ _ _ _
   | exact touch_Reads.mono _ _
   | exact touch_Writes.mono _ _
   | exact LeO.none _
   | refine LeO.ite ?_ ?_
   | refine LeO.bind ?_ (fun _ => ?_)
theorem live_Behind.mono : ∀ a0 a1 a2 k, LeO (live_Behind.f k a0 a1 a2) (live_Behind.f (k + 1) a0 a1 a2) := by
 intro a0 a1 a2 k
 obtain ⟨ih0, ih1⟩ := live_Behind.mono_l k
 unfold live_Behind.f
 repeat' first
   | (with_reducible exact ih0 _ _ _ _ _ _ _ _)
   | (with_reducible exact ih1 _ _ _ _ _ _ _ _ _ _ _ _)
   | (with_reducible exact block_Blocks.mono _ _ _ _)
   | (with_reducible exact live_Blocks.mono _ _ _ _)
   | (with_reducible exact touch_Reads.mono _ _)
   | (with_reducible exact touch_Writes.mono _ _)
   | (with_reducible exact LeO.refl _)
   | (with_reducible exact LeO.none _)
   | (with_reducible refine LeO.ite ?_ ?_)
   | (with_reducible refine LeO.bind ?_ (fun _ => ?_))
   | exact ih0 _ _ _ _ _ _ _ _
   | exact ih1 _ _ _ _ _ _ _ _ _ _ _ _
   | exact block_Blocks.mono _ _ _ _
   | exact live_Blocks.mono _ _ _ _
   | exact touch_Reads.mono _ _
   | exact touch_Writes.mono _ _
   | exact LeO.none _
   | refine LeO.ite ?_ ?_
   | refine LeO.bind ?_ (fun _ => ?_)
def live_Behind.T14 : Bool × List (List Nat × List Nat) := (true, [([], []), ([0], [0]), ([], []), ([1, 2], [1, 2]), ([3], [3]), ([4], [4]), ([], []), ([], []), ([7], [7]), ([], []), ([8, 9], [8, 9]), ([10], [10]), ([11, 5], [11]), ([6, 12], [6, 12]), ([5, 13], [5, 13]), ([14, 12, 0, 1, 2, 3, 4, 5, 6, 7, 8, 9, 10, 11, 12, 13, 14], [6, 14])])
def live_Behind.B14 : List Nat := [0, 1, 0, 7, 15, 31, 0, 0, 128, 0, 896, 1920, 4031, 8191, 16383, 32767]
theorem live_Behind.tab14 : rtab .any (opsOf Try.f28 14) = live_Behind.T14 := by kernel_rfl
theorem live_Behind.bits14 : waitsOk live_Behind.T14.2 live_Behind.B14 = true := by kernel_rfl
set_option maxHeartbeats 8000000 in
set_option maxRecDepth 100000 in
theorem live_Behind.calls (k : Nat) (A0_0 : Option Addr) (c0_0 : Nat) (l0_0 : List Int) (a0_1 : Int) (A0_2 : Option Addr) (c0_2 : Nat) (l0_2 : List Int) (r1 : List Int) (r2 : Int) (w : World) (hr0_0 : Kd.C (Kd.int .u32) w A0_0 l0_0.length l0_0) (hc0_0 : l0_0.length ≤ c0_0) (hr0_2 : Kd.C (Kd.int .i64) w A0_2 l0_2.length l0_2) (hc0_2 : l0_2.length ≤ c0_2) (h : live_Behind.f k l0_0 a0_1 l0_2 = some (r1, r2)) :
  Calls Try.prog 28 #[.agg #[.slice A0_0 l0_0.length c0_0, .int .i64 a0_1, .slice A0_2 l0_2.length c0_2]] w fun e w' => ∃ v0_ : Value, e = .returned (.tuple #[v0_, .int .i64 r2]) ∧ Kd.R (Kd.int .u16) 65 w' w.heap.size (fun _ => True) v0_ r1 ∧ Below w.heap.size w w' := by
 have hu32 := Try.underlying32
 have hu68 := Try.underlying68
 have HR0_0 := Aside0.mk hr0_0
 have HC0_0 := Aside0.mk hc0_0
 clear hr0_0 hc0_0
 have HR0_2 := Aside0.mk hr0_2
 have HC0_2 := Aside0.mk hc0_2
 clear hr0_2 hc0_2
 have HB := Aside0.mk (Below.refl w.heap.size w)
 have H : ((live_Blocks.f k l0_0 a0_1 l0_2).bind fun bt185 => (if bt185.2.2 = 0 then ((block_Blocks.f k l0_0 a0_1 l0_2).bind fun bt192 => (if 0 ≤ (l0_0.length : Int) then (if ((l0_0.length : Int) : Int).toNat ≤ 140737488355328 then (live_Behind.l0 k bt185.2.1 (List.replicate ((l0_0.length : Int) : Int).toNat 0) bt192.1 (bt192.1.length : Int) 0 l0_0 a0_1 l0_2) else (none)) else (none))) else (some (([] : List Int), bt185.2.2)))) = some (r1, r2) := h
 clear h
 replace H := Option.bind_eq_some_iff.mp H
 obtain ⟨⟨t185, t188, t191⟩, A20, H⟩ := H
 replace H : (if t191 = 0 then ((block_Blocks.f k l0_0 a0_1 l0_2).bind fun bt192 => (if 0 ≤ (l0_0.length : Int) then (if ((l0_0.length : Int) : Int).toNat ≤ 140737488355328 then (live_Behind.l0 k t188 (List.replicate ((l0_0.length : Int) : Int).toNat 0) bt192.1 (bt192.1.length : Int) 0 l0_0 a0_1 l0_2) else (none)) else (none))) else (some (([] : List Int), t191))) = some (r1, r2) := H
 have A2 := Aside0.mk A20
 clear A20
 by_cases c3 : t191 = 0
 ·rw [if_pos c3] at H
  have c3b0 : (t191 == 0) = true := beq_iff_eq.mpr c3
  have c3b1 : (t191 != 0) = false := bne_eq_false_iff_eq.mpr c3
  clear c3
  replace H := Option.bind_eq_some_iff.mp H
  obtain ⟨⟨t192, t195⟩, A40, H⟩ := H
  replace H : (if 0 ≤ (l0_0.length : Int) then (if ((l0_0.length : Int) : Int).toNat ≤ 140737488355328 then (live_Behind.l0 k t188 (List.replicate ((l0_0.length : Int) : Int).toNat 0) t192 (t192.length : Int) 0 l0_0 a0_1 l0_2) else (none)) else (none)) = some (r1, r2) := H
  have A4 := Aside0.mk A40
  clear A40
  by_cases c5 : 0 ≤ (l0_0.length : Int)
  ·rw [if_pos c5] at H
   have c5b0 := eq_true c5
   have c5b1 : decide (0 ≤ (l0_0.length : Int)) = true := decide_eq_true c5
   clear c5
   by_cases c6 : ((l0_0.length : Int) : Int).toNat ≤ 140737488355328
   ·rw [if_pos c6] at H
    have c6b0 := eq_true c6
    have c6b1 : decide (((l0_0.length : Int) : Int).toNat ≤ 140737488355328) = true := decide_eq_true c6
    clear c6
    obtain ⟨y196, hy196⟩ : ∃ y_ : List Int, y_ = (List.replicate ((l0_0.length : Int) : Int).toNat 0) := ⟨_, rfl⟩
    replace H : (live_Behind.l0 k t188 y196 t192 (t192.length : Int) 0 l0_0 a0_1 l0_2) = some (r1, r2) := by first | (rw [hy196]; with_reducible exact H) | (have H2_ := (Option.bind_some _ _).symm.trans H; rw [hy196]; with_reducible exact H2_) | (have H2_ := (Option.bind_some _ _).symm.trans H; with_reducible exact H2_) | with_reducible exact H | (rw [hy196]; exact H) | exact H
    have Ny196 := Aside0.mk hy196
    clear hy196
    have H' := Aside0.mk H
    clear H
    go_enter Try.func28, Try.ntmps28
    go_wp2_with (first | ((with_reducible refine gate_dst (N := 1) rfl ?_); refine box_event ?hg (N := 1) ?hd (cs := #[.slice A0_0 l0_0.length c0_0, .int .i64 a0_1, .slice A0_2 l0_2.length c0_2]) (t := 32) ?hr ?_; (case hd => rfl); (case hg => rfl); (case hr => first | (go_simp; done) | (go_simp; rfl)); intro gb184 hg w7 hbox hb; have n0_ := Aside0.mk (below_step (by repeat (first | (with_reducible first | exact HB.out | apply below_alloc | apply pw_below_drewN | apply below_drew1) | exact HB.out)) hb); have n1_ := Aside0.mk (hbox); have n2_ := Aside0.mk ((by rw [hg]; exact (below_size (by repeat (first | (with_reducible first | exact HB.out | apply below_alloc | apply pw_below_drewN | apply below_drew1) | exact HB.out))) : w.heap.size ≤ gb184)); have n3_ := Aside0.mk ((by rw [hg]; exact (below_size (by repeat (first | (with_reducible first | exact HB.out | apply below_alloc | apply pw_below_drewN | apply below_drew1) | exact HB.out))) : w.heap.size ≤ gb184)); clear HB; have HB := n0_; have BK184 := n1_; have GW184 := n2_; have GE184 := n3_; clear n0_ n1_ n2_ n3_; clear hb hbox hg; have hcz8_0 : w7.cell? ⟨gb184, 0, none⟩ = some (.slice A0_0 l0_0.length c0_0) := (blk_cell BK184.out 0).trans rfl; have hcz8_1 : w7.cell? ⟨gb184, 1, none⟩ = some (.int .i64 a0_1) := (blk_cell BK184.out 1).trans rfl; have hcz8_2 : w7.cell? ⟨gb184, 2, none⟩ = some (.slice A0_2 l0_2.length c0_2) := (blk_cell BK184.out 2).trans rfl; have hfz8_0 := blk_frozen BK184.out 0; have hfz8_1 := blk_frozen BK184.out 1; have hfz8_2 := blk_frozen BK184.out 2) | ((with_reducible refine gate_callee (f := 46) rfl ?_); refine goesL_ (some 16) rfl rfl Try.func46 (by kernel_rfl) rfl #[.agg #[.slice A0_0 l0_0.length c0_0, .int .i64 a0_1, .slice A0_2 l0_2.length c0_2]] rfl (by (try simp only [List.map_toArray, List.map_cons, List.map_nil]); first | done | rfl | (simp only [List.length_drop, List.length_take]; rfl)) ?_; (with_reducible refine (live_Blocks.calls k _ _ l0_0 a0_1 _ _ l0_2 t185 t188 t191 _ ?side1 ?side2 ?side3 ?side4 A2.out).mono ?_); (case side1 => repeat (first | exact (Kd.C_below HR0_0.out HB.out) | (with_reducible refine Kd.C_alloc ?_ _) | (with_reducible refine Kd.C_drewN ?_ _) | (with_reducible refine Kd.C_drew ?_))); (case side2 => exact HC0_0.out); (case side3 => repeat (first | exact (Kd.C_below HR0_2.out HB.out) | (with_reducible refine Kd.C_alloc ?_ _) | (with_reducible refine Kd.C_drewN ?_ _) | (with_reducible refine Kd.C_drew ?_))); (case side4 => exact HC0_2.out); rintro e w9 ⟨v186, v189, rfl, ho0, ho1, hb⟩; refine ⟨_, rfl, ?_⟩; have n0_ := Aside0.mk (Kd.R_lower ho0 (below_size (by repeat (first | (with_reducible first | exact HB.out | apply below_alloc | apply pw_below_drewN | apply below_drew1 | refine below_set ?_ GE184.out) | exact HB.out)))); have n1_ := Aside0.mk (Kd.R_lower ho1 (below_size (by repeat (first | (with_reducible first | exact HB.out | apply below_alloc | apply pw_below_drewN | apply below_drew1 | refine below_set ?_ GE184.out) | exact HB.out)))); have n2_ := Aside0.mk (blk_below (g := gb184) (o := .cells #[.slice A0_0 l0_0.length c0_0, .int .i64 a0_1, .slice A0_2 l0_2.length c0_2] 32 (0, 0)) (by (with_reducible repeat (first | refine blk_drewN ?_ _ | refine blk_drew ?_ | refine blk_alloc ?_ _)); exact BK184.out) hb); have n3_ := Aside0.mk (below_step (by repeat (first | (with_reducible first | exact HB.out | apply below_alloc | apply pw_below_drewN | apply below_drew1 | refine below_set ?_ GE184.out) | exact HB.out)) hb); clear BK184; clear HB; have HO187 := n0_; have HO190 := n1_; have BK184 := n2_; have HB := n3_; clear n0_ n1_ n2_ n3_; (try clear hb); (try clear hb2); (try clear hk); (try clear hi); (try clear ho0); (try clear ho1); have hcz10_0 : w9.cell? ⟨gb184, 0, none⟩ = some (.slice A0_0 l0_0.length c0_0) := (blk_cell BK184.out 0).trans rfl; have hcz10_1 : w9.cell? ⟨gb184, 1, none⟩ = some (.int .i64 a0_1) := (blk_cell BK184.out 1).trans rfl; have hcz10_2 : w9.cell? ⟨gb184, 2, none⟩ = some (.slice A0_2 l0_2.length c0_2) := (blk_cell BK184.out 2).trans rfl; have hfz10_0 := blk_frozen BK184.out 0; have hfz10_1 := blk_frozen BK184.out 1; have hfz10_2 := blk_frozen BK184.out 2) | ((with_reducible refine gate_callee (f := 27) rfl ?_); refine goesL_ (some 25) rfl rfl Try.func27 (by kernel_rfl) rfl #[.agg #[.slice A0_0 l0_0.length c0_0, .int .i64 a0_1, .slice A0_2 l0_2.length c0_2]] rfl (by (try simp only [List.map_toArray, List.map_cons, List.map_nil]); first | done | rfl | (simp only [List.length_drop, List.length_take]; rfl)) ?_; (with_reducible refine (block_Blocks.calls k _ _ l0_0 a0_1 _ _ l0_2 t192 t195 _ ?side1 ?side2 ?side3 ?side4 A4.out).mono ?_); (case side1 => repeat (first | exact (Kd.C_below HR0_0.out HB.out) | (with_reducible refine Kd.C_alloc ?_ _) | (with_reducible refine Kd.C_drewN ?_ _) | (with_reducible refine Kd.C_drew ?_))); (case side2 => exact HC0_0.out); (case side3 => repeat (first | exact (Kd.C_below HR0_2.out HB.out) | (with_reducible refine Kd.C_alloc ?_ _) | (with_reducible refine Kd.C_drewN ?_ _) | (with_reducible refine Kd.C_drew ?_))); (case side4 => exact HC0_2.out); rintro e w11 ⟨v193, rfl, ho0, hb⟩; refine ⟨_, rfl, ?_⟩; have n0_ := Aside0.mk (Kd.R_below (by (with_reducible repeat (first | apply Kd.R_alloc | apply Kd.R_drewN | apply Kd.R_drew)); exact HO187.out) hb); have n1_ := Aside0.mk (Kd.R_below (by (with_reducible repeat (first | apply Kd.R_alloc | apply Kd.R_drewN | apply Kd.R_drew)); exact HO190.out) hb); have n2_ := Aside0.mk (Kd.R_lower ho0 (below_size (by repeat (first | (with_reducible first | exact HB.out | apply below_alloc | apply pw_below_drewN | apply below_drew1 | refine below_set ?_ GE184.out) | exact HB.out)))); have n3_ := Aside0.mk (blk_below (g := gb184) (o := .cells #[.slice A0_0 l0_0.length c0_0, .int .i64 a0_1, .slice A0_2 l0_2.length c0_2] 32 (0, 0)) (by (with_reducible repeat (first | refine blk_drewN ?_ _ | refine blk_drew ?_ | refine blk_alloc ?_ _)); exact BK184.out) hb); have n4_ := Aside0.mk (below_step (by repeat (first | (with_reducible first | exact HB.out | apply below_alloc | apply pw_below_drewN | apply below_drew1 | refine below_set ?_ GE184.out) | exact HB.out)) hb); clear HO187; clear HO190; clear BK184; clear HB; have HO187 := n0_; have HO190 := n1_; have HO194 := n2_; have BK184 := n3_; have HB := n4_; clear n0_ n1_ n2_ n3_ n4_; (try clear hb); (try clear hb2); (try clear hk); (try clear hi); (try clear ho0); have hcz12_0 : w11.cell? ⟨gb184, 0, none⟩ = some (.slice A0_0 l0_0.length c0_0) := (blk_cell BK184.out 0).trans rfl; have hcz12_1 : w11.cell? ⟨gb184, 1, none⟩ = some (.int .i64 a0_1) := (blk_cell BK184.out 1).trans rfl; have hcz12_2 : w11.cell? ⟨gb184, 2, none⟩ = some (.slice A0_2 l0_2.length c0_2) := (blk_cell BK184.out 2).trans rfl; have hfz12_0 := blk_frozen BK184.out 0; have hfz12_1 := blk_frozen BK184.out 1; have hfz12_2 := blk_frozen BK184.out 2) | ((with_reducible refine gate_dst (N := 31) rfl ?_); refine Kd.R_make (Kd.int .u16) _ 65 rfl (N := 31) rfl 45 _ _ rfl (l0_0.length : Int) rfl rfl Try.underlying45 (.int .u16 0) 2 info65 rfl (by decide) (by omega) 0 (ok := fun _ => True) (okp := fun _ => True) rfl (fun _ hk => hk) trivial (of_decide_eq_true (by first | (with_reducible assumption) | assumption)) (Nat.le_trans (Nat.mul_le_mul_right _ (of_decide_eq_true (by first | (with_reducible assumption) | assumption) : (l0_0.length : Int).toNat ≤ 140737488355328)) (by omega)) (Below.refl _ _) (Nat.le_refl _) ?_; intro v197 w13 ho14 hb hg_ hnew_; clear hg_ hnew_; (first | rw [← Ny196.out] at ho14 | (simp only [Int.reduceToNat] at ho14; rw [← Ny196.out] at ho14)); have n0_ := Aside0.mk (Kd.R_elder' (by (with_reducible repeat (first | apply Kd.R_alloc | apply Kd.R_drewN | apply Kd.R_drew)); exact HO187.out) (Kd.R_base ho14) hb); have n1_ := Aside0.mk (Kd.R_elder' (by (with_reducible repeat (first | apply Kd.R_alloc | apply Kd.R_drewN | apply Kd.R_drew)); exact HO190.out) (Kd.R_base ho14) hb); have n2_ := Aside0.mk (Kd.R_below (by (with_reducible repeat (first | apply Kd.R_alloc | apply Kd.R_drewN | apply Kd.R_drew)); exact HO194.out) hb); have n3_ := Aside0.mk (Kd.R_lower (Kd.R_new' (Kd.R_new' ho14 (Kd.R_lt (by (with_reducible repeat (first | apply Kd.R_alloc | apply Kd.R_drewN | apply Kd.R_drew)); exact HO187.out))) (Kd.R_lt (by (with_reducible repeat (first | apply Kd.R_alloc | apply Kd.R_drewN | apply Kd.R_drew)); exact HO190.out))) (below_size (by repeat (first | (with_reducible first | exact HB.out | apply below_alloc | apply pw_below_drewN | apply below_drew1 | refine below_set ?_ GE184.out) | exact HB.out)))); have n4_ := Aside0.mk (blk_below (g := gb184) (o := .cells #[.slice A0_0 l0_0.length c0_0, .int .i64 a0_1, .slice A0_2 l0_2.length c0_2] 32 (0, 0)) (by (with_reducible repeat (first | refine blk_drewN ?_ _ | refine blk_drew ?_ | refine blk_alloc ?_ _)); exact BK184.out) hb); have n5_ := Aside0.mk (below_step (by repeat (first | (with_reducible first | exact HB.out | apply below_alloc | apply pw_below_drewN | apply below_drew1 | refine below_set ?_ GE184.out) | exact HB.out)) hb); clear HO187; clear HO190; clear HO194; clear BK184; clear HB; have HO187 := n0_; have HO190 := n1_; have HO194 := n2_; have HO198 := n3_; have BK184 := n4_; have HB := n5_; clear n0_ n1_ n2_ n3_ n4_ n5_; clear hb ho14; obtain ⟨Ao15, co15, eo15⟩ := Kd.R_slice HO194.out; subst eo15))
    go_loopg [34] k (fun kq v34 w' => ∃ (x9_1 : List Int) (x34_1 : Int), v34 = .int .i64 x34_1 ∧ Aside0 (live_Behind.l0 kq t188 x9_1 t192 (t192.length : Int) x34_1 l0_0 a0_1 l0_2 = some (r1, r2)) ∧ Aside0 (kq ≤ k) ∧ Aside0 (Kd.R (Kd.int .u16) 65 w' w.heap.size (fun k_ => some k_ ≠ (v197 : Value).ownBlock) v189 t188) ∧ Aside0 (Kd.R (Kd.int .u16) 65 w' w.heap.size (fun k_ => some k_ ≠ (v189 : Value).ownBlock) v197 x9_1) ∧ Aside0 (Kd.R k68 68 w' w.heap.size (fun _ => True) (.slice Ao15 t192.length co15) t192) ∧ Aside0 (w'.heap[gb184]? = some (.cells #[(.slice A0_0 l0_0.length c0_0), .int .i64 a0_1, (.slice A0_2 l0_2.length c0_2)] 32 (0, 0))) ∧ Aside0 (Below w.heap.size w w'))
    case atStart => exact ⟨(y196), (0), (by first | rfl | (simp; done) | (simp [*]; done)), H', ⟨Nat.le_refl _⟩, ⟨by (with_reducible repeat (first | apply Kd.R_alloc | apply Kd.R_drewN | apply Kd.R_drew)); exact Kd.R_mono HO190.out (fun _ hk => hk.2)⟩, ⟨by (with_reducible repeat (first | apply Kd.R_alloc | apply Kd.R_drewN | apply Kd.R_drew)); exact Kd.R_mono HO198.out (fun _ hk => hk.2)⟩, ⟨by (with_reducible repeat (first | apply Kd.R_alloc | apply Kd.R_drewN | apply Kd.R_drew)); exact HO194.out⟩, ⟨by (with_reducible repeat (first | refine blk_drewN ?_ _ | refine blk_drew ?_ | refine blk_alloc ?_ _)); exact BK184.out⟩, ⟨by repeat (first | (with_reducible first | exact HB.out | apply below_alloc | apply pw_below_drewN | apply below_drew1 | refine below_set ?_ GE184.out) | exact HB.out)⟩⟩
    case round =>
     clear H'
     try clear c2
     try clear p2
     try clear c3
     try clear c3b0
     try clear c3b1
     try clear c4
     try clear c5
     try clear c5b0
     try clear c5b1
     try clear c6
     try clear c6b0
     try clear c6b1
     try clear hcz10_0
     try clear hcz10_1
     try clear hcz10_2
     try clear hcz12_0
     try clear hcz12_1
     try clear hcz12_2
     try clear hcz8_0
     try clear hcz8_1
     try clear hcz8_2
     try clear hfz10_0
     try clear hfz10_1
     try clear hfz10_2
     try clear hfz12_0
     try clear hfz12_1
     try clear hfz12_2
     try clear hfz8_0
     try clear hfz8_1
     try clear hfz8_2
     obtain ⟨x9_1, x34_1, rfl, HA, HK1, HO_5, HO_9, HO_32, BK184, HB⟩ := hrel
     cases gk with
     | zero => exact absurd HA.out (by simp [live_Behind.l0])
     | succ k1 =>
      have H := HA.out
      clear HA
      simp only [live_Behind.l0] at H
      by_cases c16 : x34_1 < (t192.length : Int)
      ·rw [if_pos c16] at H
       have c16b0 : decide (x34_1 < (t192.length : Int)) = true := decide_eq_true c16
       clear c16
       by_cases c17 : 0 ≤ x34_1
       ·rw [if_pos c17] at H
        have c17b0 : decide (0 ≤ x34_1) = true := decide_eq_true c17
        clear c17
        by_cases c18 : x34_1 < (t192.length : Int)
        ·rw [if_pos c18] at H
         have c18b0 : decide (x34_1 < (t192.length : Int)) = true := decide_eq_true c18
         clear c18
         by_cases c19 : x34_1 < (t188.length : Int)
         ·rw [if_pos c19] at H
          have c19b0 : decide (x34_1 < (t188.length : Int)) = true := decide_eq_true c19
          clear c19
          have H' := Aside0.mk H
          clear H
          have p199 : 0 ≤ (x34_1 : Int) := of_decide_eq_true (by first | (with_reducible assumption) | assumption)
          have q199 : x34_1 < (t192.length : Int) := of_decide_eq_true (by first | (with_reducible assumption) | assumption)
          obtain ⟨ad199, e199, hx199_0, hx199_1⟩ := at_T68 (Kd.R_reads' HO_32.out).2.2 x34_1 p199 q199
          cases e199
          replace p199 := eq_true p199
          replace q199 := eq_true q199
          go_wp2_with (first | ((with_reducible refine gate_dst (N := 11) rfl ?_); refine box_event ?hg (N := 11) ?hd (cs := #[.int .i64 0, .int .i64 0]) (t := 68) ?hr ?_; (case hd => rfl); (case hg => rfl); (case hr => first | (go_simp; done) | (go_simp; rfl)); intro gb200 hg w20 hbox hb; have n0_ := Aside0.mk (Kd.R_below (by (with_reducible repeat (first | apply Kd.R_alloc | apply Kd.R_drewN | apply Kd.R_drew)); exact HO_5.out) hb); have n1_ := Aside0.mk (Kd.R_below (by (with_reducible repeat (first | apply Kd.R_alloc | apply Kd.R_drewN | apply Kd.R_drew)); exact HO_9.out) hb); have n2_ := Aside0.mk (Kd.R_below (Kd.R_elderB (by (with_reducible repeat (first | apply Kd.R_alloc | apply Kd.R_drewN | apply Kd.R_drew)); exact HO_32.out) gb200 (Nat.le_of_eq hg.symm)) hb); have n3_ := Aside0.mk (blk_below (g := gb184) (o := .cells #[.slice A0_0 l0_0.length c0_0, .int .i64 a0_1, .slice A0_2 l0_2.length c0_2] 32 (0, 0)) (by (with_reducible repeat (first | refine blk_drewN ?_ _ | refine blk_drew ?_ | refine blk_alloc ?_ _)); exact BK184.out) hb); have n4_ := Aside0.mk (below_step (by repeat (first | (with_reducible first | exact HB.out | apply below_alloc | apply pw_below_drewN | apply below_drew1 | refine below_set ?_ GE184.out) | exact HB.out)) hb); have n5_ := Aside0.mk (hbox); have n6_ := Aside0.mk ((by rw [hg]; exact (below_size (by repeat (first | (with_reducible first | exact HB.out | apply below_alloc | apply pw_below_drewN | apply below_drew1 | refine below_set ?_ GE184.out) | exact HB.out))) : w.heap.size ≤ gb200)); have n7_ := Aside0.mk ((by rw [hg]; exact (below_size (by repeat (first | (with_reducible first | exact HB.out | apply below_alloc | apply pw_below_drewN | apply below_drew1 | refine below_set ?_ GE184.out) | exact HB.out))) : w.heap.size ≤ gb200)); have n8_ := Aside0.mk ((by rw [hg]; exact Nat.ne_of_lt (blk_lt (g := gb184) (o := .cells #[.slice A0_0 l0_0.length c0_0, .int .i64 a0_1, .slice A0_2 l0_2.length c0_2] 32 (0, 0)) (by (with_reducible repeat (first | refine blk_drewN ?_ _ | refine blk_drew ?_ | refine blk_alloc ?_ _)); exact BK184.out)) : gb184 ≠ gb200)); have n9_ := Aside0.mk ((by rw [hg]; exact Nat.ne_of_gt (blk_lt (g := gb184) (o := .cells #[.slice A0_0 l0_0.length c0_0, .int .i64 a0_1, .slice A0_2 l0_2.length c0_2] 32 (0, 0)) (by (with_reducible repeat (first | refine blk_drewN ?_ _ | refine blk_drew ?_ | refine blk_alloc ?_ _)); exact BK184.out)) : gb200 ≠ gb184)); clear HO_5; clear HO_9; clear HO_32; clear BK184; clear HB; have HO_5 := n0_; have HO_9 := n1_; have HO_32 := n2_; have BK184 := n3_; have HB := n4_; have BK200 := n5_; have GW200 := n6_; have GE200 := n7_; have NB184_200 := n8_; have NB200_184 := n9_; clear n0_ n1_ n2_ n3_ n4_ n5_ n6_ n7_ n8_ n9_; clear hb hbox hg; have hnb21 := NB200_184.out; have hnc21 := NB184_200.out; have hcz22_0 : w20.cell? ⟨gb200, 0, none⟩ = some (.int .i64 0) := (blk_cell BK200.out 0).trans rfl; have hcz22_1 : w20.cell? ⟨gb200, 1, none⟩ = some (.int .i64 0) := (blk_cell BK200.out 1).trans rfl; have hfz22_0 := blk_frozen BK200.out 0; have hfz22_1 := blk_frozen BK200.out 1; obtain ⟨Ao23, co23, eo23⟩ := Kd.R_slice HO_5.out; subst eo23; have p201 : 0 ≤ (x34_1 : Int) := of_decide_eq_true (by first | (with_reducible assumption) | assumption); have q201 : x34_1 < (t188.length : Int) := of_decide_eq_true (by first | (with_reducible assumption) | assumption); obtain ⟨ad201, e201, hx201_0⟩ := Kd.at_int (Kd.R_reads' HO_5.out).2.2 x34_1 p201 q201; cases e201; have hn201_0 : ad201.block ≠ gb200 := Kd.own_blk (Kd.R_ne HO_5.out BK200.out (by decide)); have hn201_1 : ad201.block ≠ gb200 := Kd.own_blk (Kd.R_ne HO_5.out BK200.out (by decide)); replace hx201_0 := (cell_far (p := ⟨gb200, 0, none⟩) (by first | (rw [add_block]; exact hn201_0) | (show (Addr.add _ _).block ≠ _; rw [add_block]; exact hn201_0) | exact hn201_0) (.int .i64 ((rd_T68 t192 x34_1).f0))).trans hx201_0; replace hx201_0 := (cell_far (p := ⟨gb200, 1, none⟩) (by first | (rw [add_block]; exact hn201_1) | (show (Addr.add _ _).block ≠ _; rw [add_block]; exact hn201_1) | exact hn201_1) (.int .i64 ((rd_T68 t192 x34_1).f1))).trans hx201_0; clear hn201_0; clear hn201_1; replace p201 := eq_true p201; replace q201 := eq_true q201))
          go_loopg [12, 13] k1 (fun kq v12 v13 w' => ∃ (x9_2 : List Int) (x12_2 : Int) (x13_2 : Int), v12 = .int .u16 x12_2 ∧ v13 = .int .i64 x13_2 ∧ Aside0 (live_Behind.l1 kq t188 x9_2 x12_2 x13_2 t192 (t192.length : Int) x34_1 l0_0 a0_1 l0_2 ((rd_T68 t192 x34_1).f0) ((rd_T68 t192 x34_1).f1) = some (r1, r2)) ∧ Aside0 (kq ≤ k1) ∧ Aside0 (Kd.R (Kd.int .u16) 65 w' w.heap.size (fun k_ => some k_ ≠ (v197 : Value).ownBlock) (.slice (some ad201) t188.length co23) t188) ∧ Aside0 (Kd.R (Kd.int .u16) 65 w' w.heap.size (fun k_ => some k_ ≠ ((.slice (some ad201) t188.length co23) : Value).ownBlock) v197 x9_2) ∧ Aside0 (Kd.R k68 68 w' w.heap.size (fun k_ => k_ ≠ gb200) (.slice (some ad199) t192.length co15) t192) ∧ Aside0 (w'.heap[gb184]? = some (.cells #[(.slice A0_0 l0_0.length c0_0), .int .i64 a0_1, (.slice A0_2 l0_2.length c0_2)] 32 (0, 0))) ∧ Aside0 (w'.heap[gb200]? = some (.cells #[.int .i64 ((rd_T68 t192 x34_1).f0), .int .i64 ((rd_T68 t192 x34_1).f1)] 68 (0, 0))) ∧ Aside0 (Below w.heap.size w w'))
          case atStart => exact ⟨(x9_1), (rd t188 x34_1), (wrap64 (((rd_T68 t192 x34_1).f1) - 1)), (by first | rfl | (simp; done) | (simp [*]; done)), (by first | rfl | (simp; done) | (simp [*]; done)), H', ⟨Nat.le_refl _⟩, ⟨by (with_reducible repeat (first | apply Kd.R_alloc | apply Kd.R_drewN | apply Kd.R_drew)); exact Kd.R_mono (Kd.R_far (p := ⟨gb200, 1, none⟩) (Kd.R_far (p := ⟨gb200, 0, none⟩) (Kd.R_types HO_5.out BK200.out (by decide)) (fun _ hk => hk.2) (.int .i64 ((rd_T68 t192 x34_1).f0))) (fun _ hk => hk.2) (.int .i64 ((rd_T68 t192 x34_1).f1))) (fun _ hk => hk.1)⟩, ⟨by (with_reducible repeat (first | apply Kd.R_alloc | apply Kd.R_drewN | apply Kd.R_drew)); exact Kd.R_mono (Kd.R_far (p := ⟨gb200, 1, none⟩) (Kd.R_far (p := ⟨gb200, 0, none⟩) (Kd.R_types HO_9.out BK200.out (by decide)) (fun _ hk => hk.2) (.int .i64 ((rd_T68 t192 x34_1).f0))) (fun _ hk => hk.2) (.int .i64 ((rd_T68 t192 x34_1).f1))) (fun _ hk => hk.1)⟩, ⟨by (with_reducible repeat (first | apply Kd.R_alloc | apply Kd.R_drewN | apply Kd.R_drew)); exact Kd.R_mono (Kd.R_far (p := ⟨gb200, 1, none⟩) (Kd.R_far (p := ⟨gb200, 0, none⟩) (Kd.R_mono HO_32.out (fun k_ hk => (⟨hk, hk.2⟩ : _ ∧ k_ ≠ gb200))) (fun _ hk => hk.2) (.int .i64 ((rd_T68 t192 x34_1).f0))) (fun _ hk => hk.2) (.int .i64 ((rd_T68 t192 x34_1).f1))) (fun _ hk => hk.1.2)⟩, ⟨by (with_reducible repeat (first | refine blk_drewN ?_ _ | refine blk_drew ?_ | refine blk_alloc ?_ _)); refine blk_far ?_ NB184_200.out _; (with_reducible repeat (first | refine blk_drewN ?_ _ | refine blk_drew ?_ | refine blk_alloc ?_ _)); refine blk_far ?_ NB184_200.out _; (with_reducible repeat (first | refine blk_drewN ?_ _ | refine blk_drew ?_ | refine blk_alloc ?_ _)); exact BK184.out⟩, ⟨by (with_reducible repeat (first | refine blk_drewN ?_ _ | refine blk_drew ?_ | refine blk_alloc ?_ _)); refine blk_put (cs := #[.int .i64 ((rd_T68 t192 x34_1).f0), .int .i64 0]) ?_ 1 _ rfl; (with_reducible repeat (first | refine blk_drewN ?_ _ | refine blk_drew ?_ | refine blk_alloc ?_ _)); refine blk_put (cs := #[.int .i64 0, .int .i64 0]) ?_ 0 _ rfl; (with_reducible repeat (first | refine blk_drewN ?_ _ | refine blk_drew ?_ | refine blk_alloc ?_ _)); exact BK200.out⟩, ⟨by repeat (first | (with_reducible first | exact HB.out | apply below_alloc | apply pw_below_drewN | apply below_drew1 | refine below_set ?_ GE184.out | refine below_set ?_ GE200.out) | exact HB.out)⟩⟩
          case round =>
           clear H'
           try clear c1
           try clear p1
           try clear q1
           try clear hx1
           try clear c2
           try clear p2
           try clear q2
           try clear hx2
           try clear c3
           try clear c3b0
           try clear c3b1
           try clear c4
           try clear c5
           try clear c5b0
           try clear c5b1
           try clear c6
           try clear c6b0
           try clear c6b1
           try clear p6
           try clear c16
           try clear c16b0
           try clear c17
           try clear c17b0
           try clear c18
           try clear c18b0
           try clear c19
           try clear c19b0
           try clear p19
           try clear q19
           try clear hx19
           try clear p20
           try clear q20
           try clear hx20
           try clear c21
           try clear hcz10_0
           try clear hcz10_1
           try clear hcz10_2
           try clear hcz12_0
           try clear hcz12_1
           try clear hcz12_2
           try clear hcz22_0
           try clear hcz22_1
           try clear hcz8_0
           try clear hcz8_1
           try clear hcz8_2
           try clear hfz10_0
           try clear hfz10_1
           try clear hfz10_2
           try clear hfz12_0
           try clear hfz12_1
           try clear hfz12_2
           try clear hfz22_0
           try clear hfz22_1
           try clear hfz8_0
           try clear hfz8_1
           try clear hfz8_2
           try clear hx199_0
           try clear hx199_1
           try clear hx201_0
           try clear p199
           try clear p2
           try clear p201
           try clear q199
           try clear q201
           obtain ⟨x9_2, x12_2, x13_2, rfl, rfl, HA, HK2, HO_5, HO_9, HO_32, BK184, BK200, HB⟩ := hrel
           cases gk with
           | zero => exact absurd HA.out (by simp [live_Behind.l1])
           | succ k2 =>
            have H := HA.out
            clear HA
            simp only [live_Behind.l1] at H
            by_cases c24 : x13_2 ≥ ((rd_T68 t192 x34_1).f0)
            ·rw [if_pos c24] at H
             have c24b0 : decide (((rd_T68 t192 x34_1).f0) ≤ x13_2) = true := decide_eq_true c24
             clear c24
             by_cases c25 : 0 ≤ x13_2
             ·rw [if_pos c25] at H
              have c25b0 : decide (0 ≤ x13_2) = true := decide_eq_true c25
              clear c25
              by_cases c26 : x13_2 < (x9_2.length : Int)
              ·rw [if_pos c26] at H
               have c26b0 : decide (x13_2 < (x9_2.length : Int)) = true := decide_eq_true c26
               clear c26
               obtain ⟨y202, hy202⟩ : ∃ y_ : List Int, y_ = (x9_2.set (x13_2 : Int).toNat x12_2) := ⟨_, rfl⟩
               replace H : (if x13_2 < (l0_0.length : Int) then ((touch_Reads.f k2 (rd l0_0 x13_2)).bind fun t204 => ((touch_Writes.f k2 (rd l0_0 x13_2)).bind fun t206 => (live_Behind.l1 k2 t188 y202 (Go.bits .or .u16 t204 (Go.bits .andNot .u16 x12_2 t206)) (wrap64 (x13_2 - 1)) t192 (t192.length : Int) x34_1 l0_0 a0_1 l0_2 ((rd_T68 t192 x34_1).f0) ((rd_T68 t192 x34_1).f1)))) else (none)) = some (r1, r2) := by first | (rw [hy202]; with_reducible exact H) | (have H2_ := (Option.bind_some _ _).symm.trans H; rw [hy202]; with_reducible exact H2_) | (have H2_ := (Option.bind_some _ _).symm.trans H; with_reducible exact H2_) | with_reducible exact H | (rw [hy202]; exact H) | exact H
               have Ny202 := Aside0.mk hy202
               clear hy202
               by_cases c28 : x13_2 < (l0_0.length : Int)
               ·rw [if_pos c28] at H
                have c28b0 : decide (x13_2 < (l0_0.length : Int)) = true := decide_eq_true c28
                clear c28
                replace H := Option.bind_eq_some_iff.mp H
                obtain ⟨t204, A290, H⟩ := H
                replace H : ((touch_Writes.f k2 (rd l0_0 x13_2)).bind fun t206 => (live_Behind.l1 k2 t188 y202 (Go.bits .or .u16 t204 (Go.bits .andNot .u16 x12_2 t206)) (wrap64 (x13_2 - 1)) t192 (t192.length : Int) x34_1 l0_0 a0_1 l0_2 ((rd_T68 t192 x34_1).f0) ((rd_T68 t192 x34_1).f1))) = some (r1, r2) := H
                have A29 := Aside0.mk A290
                clear A290
                replace H := Option.bind_eq_some_iff.mp H
                obtain ⟨t206, A300, H⟩ := H
                replace H : (live_Behind.l1 k2 t188 y202 (Go.bits .or .u16 t204 (Go.bits .andNot .u16 x12_2 t206)) (wrap64 (x13_2 - 1)) t192 (t192.length : Int) x34_1 l0_0 a0_1 l0_2 ((rd_T68 t192 x34_1).f0) ((rd_T68 t192 x34_1).f1)) = some (r1, r2) := H
                have A30 := Aside0.mk A300
                clear A300
                have H' := Aside0.mk H
                clear H
                have hnb31 := NB200_184.out
                have hnc31 := NB184_200.out
                have hcz32_0 : wr.cell? ⟨gb200, 0, none⟩ = some (.int .i64 ((rd_T68 t192 x34_1).f0)) := (blk_cell BK200.out 0).trans rfl
                have hcz32_1 : wr.cell? ⟨gb200, 1, none⟩ = some (.int .i64 ((rd_T68 t192 x34_1).f1)) := (blk_cell BK200.out 1).trans rfl
                have hfz32_0 := blk_frozen BK200.out 0
                have hfz32_1 := blk_frozen BK200.out 1
                have p27 : 0 ≤ (x13_2 : Int) := of_decide_eq_true (by first | (with_reducible assumption) | assumption)
                have q27 : (x13_2 : Int) < ((x9_2.length : Int) : Int) := of_decide_eq_true (by first | (with_reducible assumption) | assumption)
                obtain ⟨go27, co27, eo27, gb27, gl27, cl27, HG27⟩ := Kd.R_form HO_9.out (by omega)
                (first | cases eo27 | (injection eo27 with ea_ en_ ec_; (first | subst ea_ | (injection ea_ with ea_; subst ea_)); subst ec_; clear en_))
                have GB27 := Aside0.mk gb27
                have GG27 := Aside0.mk HG27
                clear gb27 gl27 HG27
                obtain ⟨hx27_0, hf27_0⟩ := Kd.R_celln 0 HO_9.out (x13_2 : Int) p27 q27
                replace p27 := eq_true p27
                replace q27 := eq_true q27
                have HP33 := Kd.R_putg HO_9.out (x13_2 : Int) x12_2
                try go_wp2_with (first | ((with_reducible refine gate_store (t := 65) (p := 55) rfl ?_); refine store_event (t := 65) (p := 55) (v := ?vo_w34) (w1 := (wr.setCell ⟨go27, (x13_2 : Int).toNat, none⟩ (.int .u16 x12_2))) ?hg ?ho ?hn ?hr ?_; (case ho => rfl); (case hg => rfl); (case hn => rfl); (case hr => first | (go_simp; done) | (go_simp; rfl)); intro w34 hw; have hg : wr.grownBy w34 (some go27) := (by rw [hw]; exact HP33.2); have hp_ : Kd.R (Kd.int .u16) 65 w34 w.heap.size (fun k_ => some k_ ≠ (.slice (some ad201) t188.length co23 : Value).ownBlock) (.slice (some ⟨go27, 0, none⟩) x9_2.length co27) y202 := (by rw [hw, Ny202.out]; exact HP33.1); clear HP33; have n0_ := Aside0.mk (Kd.R_after (v := (.slice (some ⟨go27, 0, none⟩) x9_2.length co27)) (v1 := (.slice (some ⟨go27, 0, none⟩) x9_2.length co27)) (ok := (fun _ => True)) (by (with_reducible repeat (first | apply Kd.R_alloc | apply Kd.R_drewN | apply Kd.R_drew)); exact Kd.R_mono HO_5.out (fun _ hk => ⟨trivial, hk⟩)) hg (.inl rfl)); have n1_ := Aside0.mk (hp_); have n2_ := Aside0.mk (Kd.R_over' (v := (.slice (some ⟨go27, 0, none⟩) x9_2.length co27)) (by (with_reducible repeat (first | apply Kd.R_alloc | apply Kd.R_drewN | apply Kd.R_drew)); exact HO_32.out) (Kd.R_typed HO_9.out) (by decide) hg); have n3_ := Aside0.mk (blk_grown (g := gb184) (o := .cells #[.slice A0_0 l0_0.length c0_0, .int .i64 a0_1, .slice A0_2 l0_2.length c0_2] 32 (0, 0)) (by (with_reducible repeat (first | refine blk_drewN ?_ _ | refine blk_drew ?_ | refine blk_alloc ?_ _)); exact BK184.out) hg (Kd.R_ne HO_9.out BK184.out (by decide))); have n4_ := Aside0.mk (blk_grown (g := gb200) (o := .cells #[.int .i64 ((rd_T68 t192 x34_1).f0), .int .i64 ((rd_T68 t192 x34_1).f1)] 68 (0, 0)) (by (with_reducible repeat (first | refine blk_drewN ?_ _ | refine blk_drew ?_ | refine blk_alloc ?_ _)); exact BK200.out) hg (Kd.R_ne HO_9.out BK200.out (by decide))); have n5_ := Aside0.mk ((by rw [hw]; exact below_set (HB.out) GB27.out : Below w.heap.size w w34)); clear HO_5; clear HO_9; clear HO_32; clear BK184; clear BK200; clear HB; have HO_5 := n0_; have HO_9 := n1_; have HO_32 := n2_; have BK184 := n3_; have BK200 := n4_; have HB := n5_; clear n0_ n1_ n2_ n3_ n4_ n5_; clear hg hw hp_))
                have n0_ := Aside0.mk (Kd.R_drew HO_5.out)
                have n1_ := Aside0.mk (Kd.R_drew HO_9.out)
                have n2_ := Aside0.mk (Kd.R_drew HO_32.out)
                have n3_ := Aside0.mk (blk_drew BK184.out)
                have n4_ := Aside0.mk (blk_drew BK200.out)
                have n5_ := Aside0.mk (below_drew1 HB.out)
                clear HO_5
                clear HO_9
                clear HO_32
                clear BK184
                clear BK200
                clear HB
                have HO_5 := n0_
                have HO_9 := n1_
                have HO_32 := n2_
                have BK184 := n3_
                have BK200 := n4_
                have HB := n5_
                clear n0_ n1_ n2_ n3_ n4_ n5_
                have p203 : 0 ≤ (x13_2 : Int) := of_decide_eq_true (by first | (with_reducible assumption) | assumption)
                have q203 : x13_2 < (l0_0.length : Int) := of_decide_eq_true (by first | (with_reducible assumption) | assumption)
                obtain ⟨ad203, e203, hx203_0⟩ := Kd.at_int HR0_0.out x13_2 p203 q203
                have hw203_0 := hx203_0
                cases e203
                replace hx203_0 := (HB.out.cell (World.block_lt_of_cell? w _ hx203_0)).trans hx203_0
                replace p203 := eq_true p203
                replace q203 := eq_true q203
                have p205 : 0 ≤ (x13_2 : Int) := of_decide_eq_true (by first | (with_reducible assumption) | assumption)
                have q205 : x13_2 < (l0_0.length : Int) := of_decide_eq_true (by first | (with_reducible assumption) | assumption)
                obtain ⟨ad205, e205, hx205_0⟩ := Kd.at_int HR0_0.out x13_2 p205 q205
                have hw205_0 := hx205_0
                obtain rfl : ad203 = ad205 := (by injection e205)
                replace hx205_0 := (HB.out.cell (World.block_lt_of_cell? w _ hx205_0)).trans hx205_0
                replace p205 := eq_true p205
                replace q205 := eq_true q205
                refine start_ (n := 16) (S := fun w' => w'.cell? ⟨gb184, 0, none⟩ = some (.slice (some ad203) l0_0.length c0_0) ∧ w'.cell? ⟨gb184, 1, none⟩ = some (.int .i64 a0_1) ∧ w'.cell? ⟨gb184, 2, none⟩ = some (.slice A0_2 l0_2.length c0_2) ∧ w'.cell? (ad203.add (x13_2).toNat) = some (.int .u32 (rd l0_0 x13_2)) ∧ w'.cell? (ad203.add (x13_2).toNat) = some (.int .u32 (rd l0_0 x13_2))) (ds := []) #[false, false, false, false, false, false, false, false, false, false, false, false, false, false, false, false] (by kernel_rfl) rfl rfl ⟨(blk_cell BK184.out 0).trans rfl, (blk_cell BK184.out 1).trans rfl, (blk_cell BK184.out 2).trans rfl, ((HB.out.cell (World.block_lt_of_cell? w _ hw203_0)).trans hw203_0), ((HB.out.cell (World.block_lt_of_cell? w _ hw205_0)).trans hw205_0)⟩ (fun hHeld => ?_); refine with_tabW live_Behind.tab14 live_Behind.bits14 (fun HT_ HW_ => ?_)
                generalize w34.drew = w35 at HO_5 HO_9 HO_32 BK184 BK200 HB hx203_0 hx205_0 hHeld ⊢
                refine pure_ (i := 0) (N := some 56) (v := ?_) (a' := ?_) #[true, false, false, false, false, false, false, false, false, false, false, false, false, false, false, false] rfl rfl (any_of HT_.out (by kernel_rfl)) (fun _ _ _ h => h) (Or.inl ⟨by rfl, ?_⟩) ?_ ?_
                rotate_left
                ·intro w'
                 go_simp
                 with_reducible rfl
                rotate_left
                ·simp only [Act.put, List.setIfInBounds_toArray, List.set_cons_zero, List.set_cons_succ, i64_w, i32_w]
                 rfl
                refine pure_ (i := 2) (N := some 58) (v := ?_) (a' := ?_) #[true, false, true, false, false, false, false, false, false, false, false, false, false, false, false, false] rfl rfl (any_of HT_.out (by kernel_rfl)) (fun _ _ _ h => h) (Or.inl ⟨by rfl, ?_⟩) ?_ ?_
                rotate_left
                ·intro w'
                 go_simp
                 with_reducible rfl
                rotate_left
                ·simp only [Act.put, List.setIfInBounds_toArray, List.set_cons_zero, List.set_cons_succ, i64_w, i32_w]
                 rfl
                refine pure_ (i := 6) (N := some 62) (v := ?_) (a' := ?_) #[true, false, true, false, false, false, true, false, false, false, false, false, false, false, false, false] rfl rfl (any_of HT_.out (by kernel_rfl)) (fun _ _ _ h => h) (Or.inl ⟨by rfl, ?_⟩) ?_ ?_
                rotate_left
                ·intro w'
                 go_simp
                 with_reducible rfl
                rotate_left
                ·simp only [Act.put, List.setIfInBounds_toArray, List.set_cons_zero, List.set_cons_succ, i64_w, i32_w]
                 rfl
                refine pure_ (i := 7) (N := some 63) (v := ?_) (a' := ?_) #[true, false, true, false, false, false, true, true, false, false, false, false, false, false, false, false] rfl rfl (any_of HT_.out (by kernel_rfl)) (fun _ _ _ h => h) (Or.inl ⟨by rfl, ?_⟩) ?_ ?_
                rotate_left
                ·intro w'
                 go_simp
                 with_reducible rfl
                rotate_left
                ·simp only [Act.put, List.setIfInBounds_toArray, List.set_cons_zero, List.set_cons_succ, i64_w, i32_w]
                 rfl
                refine pure_ (i := 9) (N := some 65) (v := ?_) (a' := ?_) #[true, false, true, false, false, false, true, true, false, true, false, false, false, false, false, false] rfl rfl (any_of HT_.out (by kernel_rfl)) (fun _ _ _ h => h) (Or.inl ⟨by rfl, ?_⟩) ?_ ?_
                rotate_left
                ·intro w'
                 go_simp
                 with_reducible rfl
                rotate_left
                ·simp only [Act.put, List.setIfInBounds_toArray, List.set_cons_zero, List.set_cons_succ, i64_w, i32_w]
                 rfl
                refine take_ (i := 1) (N := some 57) (v := ?_) (a' := ?_) #[true, true, true, false, false, false, true, true, false, true, false, false, false, false, false, false] rfl rfl (take_ofW HT_.out HW_.out (by kernel_rfl)) (fun _ _ _ h => h) (Or.inl ⟨by rfl, ?_⟩) hHeld ?_ ?_
                rotate_left
                ·rintro w' ⟨s0, s1, s2, s3, s4⟩
                 go_simp
                 with_reducible rfl
                rotate_left
                ·simp only [Act.put, List.setIfInBounds_toArray, List.set_cons_zero, List.set_cons_succ, i64_w, i32_w]
                 rfl
                refine pure_ (i := 3) (N := some 59) (v := ?_) (a' := ?_) #[true, true, true, true, false, false, true, true, false, true, false, false, false, false, false, false] rfl rfl (any_of HT_.out (by kernel_rfl)) (fun _ _ _ h => h) (Or.inl ⟨by rfl, ?_⟩) ?_ ?_
                rotate_left
                ·intro w'
                 go_simp
                 with_reducible rfl
                rotate_left
                ·simp only [Act.put, List.setIfInBounds_toArray, List.set_cons_zero, List.set_cons_succ, i64_w, i32_w]
                 rfl
                refine take_ (i := 4) (N := some 60) (v := ?_) (a' := ?_) #[true, true, true, true, true, false, true, true, false, true, false, false, false, false, false, false] rfl rfl (take_ofW HT_.out HW_.out (by kernel_rfl)) (fun _ _ _ h => h) (Or.inl ⟨by rfl, ?_⟩) hHeld ?_ ?_
                rotate_left
                ·rintro w' ⟨s0, s1, s2, s3, s4⟩
                 go_simp
                 with_reducible rfl
                rotate_left
                ·simp only [Act.put, List.setIfInBounds_toArray, List.set_cons_zero, List.set_cons_succ, i64_w, i32_w]
                 rfl
                refine take_ (i := 8) (N := some 64) (v := ?_) (a' := ?_) #[true, true, true, true, true, false, true, true, true, true, false, false, false, false, false, false] rfl rfl (take_ofW HT_.out HW_.out (by kernel_rfl)) (fun _ _ _ h => h) (Or.inl ⟨by rfl, ?_⟩) hHeld ?_ ?_
                rotate_left
                ·rintro w' ⟨s0, s1, s2, s3, s4⟩
                 go_simp
                 with_reducible rfl
                rotate_left
                ·simp only [Act.put, List.setIfInBounds_toArray, List.set_cons_zero, List.set_cons_succ, i64_w, i32_w]
                 rfl
                refine pure_ (i := 10) (N := some 66) (v := ?_) (a' := ?_) #[true, true, true, true, true, false, true, true, true, true, true, false, false, false, false, false] rfl rfl (any_of HT_.out (by kernel_rfl)) (fun _ _ _ h => h) (Or.inl ⟨by rfl, ?_⟩) ?_ ?_
                rotate_left
                ·intro w'
                 go_simp
                 with_reducible rfl
                rotate_left
                ·simp only [Act.put, List.setIfInBounds_toArray, List.set_cons_zero, List.set_cons_succ, i64_w, i32_w]
                 rfl
                refine take_ (i := 11) (N := some 67) (v := ?_) (a' := ?_) #[true, true, true, true, true, false, true, true, true, true, true, true, false, false, false, false] rfl rfl (take_ofW HT_.out HW_.out (by kernel_rfl)) (fun _ _ _ h => h) (Or.inl ⟨by rfl, ?_⟩) hHeld ?_ ?_
                rotate_left
                ·rintro w' ⟨s0, s1, s2, s3, s4⟩
                 go_simp
                 with_reducible rfl
                rotate_left
                ·simp only [Act.put, List.setIfInBounds_toArray, List.set_cons_zero, List.set_cons_succ, i64_w, i32_w]
                 rfl
                refine one_ (i := 5) (N := some 61) #[true, true, true, true, true, true, true, true, true, true, true, true, false, false, false, false] rfl rfl (one_of HT_.out (by kernel_rfl)) (by decide) (fun K hK => ?_)
                refine goes_ Try.func29 (by kernel_rfl) rfl #[.int .u32 (rd l0_0 x13_2)] (by rfl) rfl rfl (by (try simp only [List.map_toArray, List.map_cons, List.map_nil]); first | done | rfl | (simp only [List.length_drop, List.length_take]; rfl)) ?_
                with_reducible refine (touch_Reads.calls k2 (rd l0_0 x13_2) t204 _ A29.out).mono ?_
                rintro e w36 ⟨rfl, hb⟩
                refine ⟨_, rfl, ?_⟩
                have n0_ := Aside0.mk (Kd.R_below (by (with_reducible repeat (first | apply Kd.R_alloc | apply Kd.R_drewN | apply Kd.R_drew)); exact HO_5.out) hb)
                have n1_ := Aside0.mk (Kd.R_below (by (with_reducible repeat (first | apply Kd.R_alloc | apply Kd.R_drewN | apply Kd.R_drew)); exact HO_9.out) hb)
                have n2_ := Aside0.mk (Kd.R_below (by (with_reducible repeat (first | apply Kd.R_alloc | apply Kd.R_drewN | apply Kd.R_drew)); exact HO_32.out) hb)
                have n3_ := Aside0.mk (blk_below (g := gb184) (o := .cells #[.slice (some ad203) l0_0.length c0_0, .int .i64 a0_1, .slice A0_2 l0_2.length c0_2] 32 (0, 0)) (by (with_reducible repeat (first | refine blk_drewN ?_ _ | refine blk_drew ?_ | refine blk_alloc ?_ _)); exact BK184.out) hb)
                have n4_ := Aside0.mk (blk_below (g := gb200) (o := .cells #[.int .i64 ((rd_T68 t192 x34_1).f0), .int .i64 ((rd_T68 t192 x34_1).f1)] 68 (0, 0)) (by (with_reducible repeat (first | refine blk_drewN ?_ _ | refine blk_drew ?_ | refine blk_alloc ?_ _)); exact BK200.out) hb)
                have n5_ := Aside0.mk (below_step (by repeat (first | (with_reducible first | exact HB.out | apply below_alloc | apply pw_below_drewN | apply below_drew1 | refine below_set ?_ GE184.out | refine below_set ?_ GE200.out) | exact HB.out)) hb)
                clear HO_5
                clear HO_9
                clear HO_32
                clear BK184
                clear BK200
                clear HB
                have HO_5 := n0_
                have HO_9 := n1_
                have HO_32 := n2_
                have BK184 := n3_
                have BK200 := n4_
                have HB := n5_
                clear n0_ n1_ n2_ n3_ n4_ n5_
                (try clear hb)
                (try clear hb2)
                (try clear hk)
                (try clear hi)
                refine hK.out _ _ ⟨(blk_cell BK184.out 0).trans rfl, (blk_cell BK184.out 1).trans rfl, (blk_cell BK184.out 2).trans rfl, ((HB.out.cell (World.block_lt_of_cell? w _ hw203_0)).trans hw203_0), ((HB.out.cell (World.block_lt_of_cell? w _ hw205_0)).trans hw205_0)⟩ (fun hHeld => ?_)
                clear hK K
                refine norm_ (a' := ?_) ?_ ?_
                rotate_left
                ·show Act.put _ (some 61) _ = _
                 simp only [Act.put, List.setIfInBounds_toArray, List.set_cons_zero, List.set_cons_succ, i64_w, i32_w]
                 rfl
                refine one_ (i := 12) (N := some 68) #[true, true, true, true, true, true, true, true, true, true, true, true, true, false, false, false] rfl rfl (one_of HT_.out (by kernel_rfl)) (by decide) (fun K hK => ?_)
                refine goes_ Try.func30 (by kernel_rfl) rfl #[.int .u32 (rd l0_0 x13_2)] (by rfl) rfl rfl (by (try simp only [List.map_toArray, List.map_cons, List.map_nil]); first | done | rfl | (simp only [List.length_drop, List.length_take]; rfl)) ?_
                with_reducible refine (touch_Writes.calls k2 (rd l0_0 x13_2) t206 _ A30.out).mono ?_
                rintro e w37 ⟨rfl, hb⟩
                refine ⟨_, rfl, ?_⟩
                have n0_ := Aside0.mk (Kd.R_below (by (with_reducible repeat (first | apply Kd.R_alloc | apply Kd.R_drewN | apply Kd.R_drew)); exact HO_5.out) hb)
                have n1_ := Aside0.mk (Kd.R_below (by (with_reducible repeat (first | apply Kd.R_alloc | apply Kd.R_drewN | apply Kd.R_drew)); exact HO_9.out) hb)
                have n2_ := Aside0.mk (Kd.R_below (by (with_reducible repeat (first | apply Kd.R_alloc | apply Kd.R_drewN | apply Kd.R_drew)); exact HO_32.out) hb)
                have n3_ := Aside0.mk (blk_below (g := gb184) (o := .cells #[.slice (some ad203) l0_0.length c0_0, .int .i64 a0_1, .slice A0_2 l0_2.length c0_2] 32 (0, 0)) (by (with_reducible repeat (first | refine blk_drewN ?_ _ | refine blk_drew ?_ | refine blk_alloc ?_ _)); exact BK184.out) hb)
                have n4_ := Aside0.mk (blk_below (g := gb200) (o := .cells #[.int .i64 ((rd_T68 t192 x34_1).f0), .int .i64 ((rd_T68 t192 x34_1).f1)] 68 (0, 0)) (by (with_reducible repeat (first | refine blk_drewN ?_ _ | refine blk_drew ?_ | refine blk_alloc ?_ _)); exact BK200.out) hb)
                have n5_ := Aside0.mk (below_step (by repeat (first | (with_reducible first | exact HB.out | apply below_alloc | apply pw_below_drewN | apply below_drew1 | refine below_set ?_ GE184.out | refine below_set ?_ GE200.out) | exact HB.out)) hb)
                clear HO_5
                clear HO_9
                clear HO_32
                clear BK184
                clear BK200
                clear HB
                have HO_5 := n0_
                have HO_9 := n1_
                have HO_32 := n2_
                have BK184 := n3_
                have BK200 := n4_
                have HB := n5_
                clear n0_ n1_ n2_ n3_ n4_ n5_
                (try clear hb)
                (try clear hb2)
                (try clear hk)
                (try clear hi)
                refine hK.out _ _ ⟨(blk_cell BK184.out 0).trans rfl, (blk_cell BK184.out 1).trans rfl, (blk_cell BK184.out 2).trans rfl, ((HB.out.cell (World.block_lt_of_cell? w _ hw203_0)).trans hw203_0), ((HB.out.cell (World.block_lt_of_cell? w _ hw205_0)).trans hw205_0)⟩ (fun hHeld => ?_)
                clear hK K
                refine norm_ (a' := ?_) ?_ ?_
                rotate_left
                ·show Act.put _ (some 68) _ = _
                 simp only [Act.put, List.setIfInBounds_toArray, List.set_cons_zero, List.set_cons_succ, i64_w, i32_w]
                 rfl
                refine pure_ (i := 13) (N := some 69) (v := ?_) (a' := ?_) #[true, true, true, true, true, true, true, true, true, true, true, true, true, true, false, false] rfl rfl (any_of HT_.out (by kernel_rfl)) (fun _ _ _ h => h) (Or.inl ⟨by rfl, ?_⟩) ?_ ?_
                rotate_left
                ·intro w'
                 go_simp
                 with_reducible rfl
                rotate_left
                ·simp only [Act.put, List.setIfInBounds_toArray, List.set_cons_zero, List.set_cons_succ, i64_w, i32_w]
                 rfl
                refine pure_ (i := 14) (N := some 70) (v := ?_) (a' := ?_) #[true, true, true, true, true, true, true, true, true, true, true, true, true, true, true, false] rfl rfl (any_of HT_.out (by kernel_rfl)) (fun _ _ _ h => h) (Or.inl ⟨by rfl, ?_⟩) ?_ ?_
                rotate_left
                ·intro w'
                 go_simp
                 with_reducible rfl
                rotate_left
                ·simp only [Act.put, List.setIfInBounds_toArray, List.set_cons_zero, List.set_cons_succ, i64_w, i32_w]
                 rfl
                refine pure_ (i := 15) (N := some 12) (v := ?_) (a' := ?_) #[true, true, true, true, true, true, true, true, true, true, true, true, true, true, true, true] rfl rfl (any_of HT_.out (by kernel_rfl)) (fun _ _ _ h => h) (Or.inl ⟨by rfl, ?_⟩) ?_ ?_
                rotate_left
                ·intro w'
                 go_simp
                 with_reducible rfl
                rotate_left
                ·simp only [Act.put, List.setIfInBounds_toArray, List.set_cons_zero, List.set_cons_succ, i64_w, i32_w]
                 rfl
                refine done_ (done_of HT_.out (by kernel_rfl)) ?_
                try go_wp2
                go_roundg k2
                case measure => have := HK1.out; have := HK2.out; omega
                case rel => exact ⟨(y202), (Go.bits .or .u16 t204 (Go.bits .andNot .u16 x12_2 t206)), (wrap64 (x13_2 - 1)), (by first | rfl | (simp; done) | (simp [*]; done)), (by first | rfl | (simp; done) | (simp [*]; done)), H', ⟨by have := HK1.out; have := HK2.out; omega⟩, ⟨by (with_reducible repeat (first | apply Kd.R_alloc | apply Kd.R_drewN | apply Kd.R_drew)); exact Kd.R_mono HO_5.out (fun _ hk => hk.2)⟩, ⟨by (with_reducible repeat (first | apply Kd.R_alloc | apply Kd.R_drewN | apply Kd.R_drew)); exact HO_9.out⟩, ⟨by (with_reducible repeat (first | apply Kd.R_alloc | apply Kd.R_drewN | apply Kd.R_drew)); exact HO_32.out⟩, ⟨by (with_reducible repeat (first | refine blk_drewN ?_ _ | refine blk_drew ?_ | refine blk_alloc ?_ _)); exact BK184.out⟩, ⟨by (with_reducible repeat (first | refine blk_drewN ?_ _ | refine blk_drew ?_ | refine blk_alloc ?_ _)); exact BK200.out⟩, ⟨by repeat (first | (with_reducible first | exact HB.out | apply below_alloc | apply pw_below_drewN | apply below_drew1 | refine below_set ?_ GE184.out | refine below_set ?_ GE200.out) | exact HB.out)⟩⟩
               ·rw [if_neg c28] at H
                exact absurd H (by simp)
              ·rw [if_neg c26] at H
               exact absurd H (by simp)
             ·rw [if_neg c25] at H
              exact absurd H (by simp)
            ·rw [if_neg c24] at H
             have c24b0 : decide (((rd_T68 t192 x34_1).f0) ≤ x13_2) = false := decide_eq_false c24
             clear c24
             have H' := Aside0.mk H
             clear H
             have hnb38 := NB200_184.out
             have hnc38 := NB184_200.out
             have hcz39_0 : wr.cell? ⟨gb200, 0, none⟩ = some (.int .i64 ((rd_T68 t192 x34_1).f0)) := (blk_cell BK200.out 0).trans rfl
             have hcz39_1 : wr.cell? ⟨gb200, 1, none⟩ = some (.int .i64 ((rd_T68 t192 x34_1).f1)) := (blk_cell BK200.out 1).trans rfl
             have hfz39_0 := blk_frozen BK200.out 0
             have hfz39_1 := blk_frozen BK200.out 1
             go_wp2
             go_roundg k2
             case measure => have := HK1.out; have := HK2.out; omega
             case rel => exact ⟨(x9_2), (wrap64 (x34_1 + 1)), (by first | rfl | (simp; done) | (simp [*]; done)), H', ⟨by have := HK1.out; have := HK2.out; omega⟩, ⟨by (with_reducible repeat (first | apply Kd.R_alloc | apply Kd.R_drewN | apply Kd.R_drew)); exact HO_5.out⟩, ⟨by (with_reducible repeat (first | apply Kd.R_alloc | apply Kd.R_drewN | apply Kd.R_drew)); exact HO_9.out⟩, ⟨by (with_reducible repeat (first | apply Kd.R_alloc | apply Kd.R_drewN | apply Kd.R_drew)); exact Kd.R_mono HO_32.out (fun _ hk => trivial)⟩, ⟨by (with_reducible repeat (first | refine blk_drewN ?_ _ | refine blk_drew ?_ | refine blk_alloc ?_ _)); exact BK184.out⟩, ⟨by repeat (first | (with_reducible first | exact HB.out | apply below_alloc | apply pw_below_drewN | apply below_drew1 | refine below_set ?_ GE184.out | refine below_set ?_ GE200.out) | exact HB.out)⟩⟩
         ·rw [if_neg c19] at H
          exact absurd H (by simp)
        ·rw [if_neg c18] at H
         exact absurd H (by simp)
       ·rw [if_neg c17] at H
        exact absurd H (by simp)
      ·rw [if_neg c16] at H
       have c16b0 : decide (x34_1 < (t192.length : Int)) = false := decide_eq_false c16
       clear c16
       simp only [Option.some.injEq, Prod.mk.injEq] at H
       obtain ⟨rfl, rfl⟩ := H
       go_wp2
       go_ret2
       exact ⟨_, by first | rfl | (simp [errW_none, errW_some] <;> rfl) | (simp [*, errW_none, errW_some] <;> rfl), by (with_reducible repeat (first | apply Kd.R_alloc | apply Kd.R_drewN | apply Kd.R_drew)); exact Kd.R_mono HO_9.out (fun _ hk => trivial), by repeat (first | (with_reducible first | exact HB.out | apply below_alloc | apply pw_below_drewN | apply below_drew1 | refine below_set ?_ GE184.out) | exact HB.out)⟩
   ·rw [if_neg c6] at H
    exact absurd H (by simp)
  ·rw [if_neg c5] at H
   exact absurd H (by simp)
 ·rw [if_neg c3] at H
  have c3b0 : (t191 == 0) = false := beq_eq_false_iff_ne.mpr c3
  have c3b1 : (t191 != 0) = true := bne_iff_ne.mpr c3
  simp only [Option.some.injEq, Prod.mk.injEq] at H
  obtain ⟨rfl, rfl⟩ := H
  go_enter Try.func28, Try.ntmps28
  go_wp2_with (first | ((with_reducible refine gate_dst (N := 1) rfl ?_); refine box_event ?hg (N := 1) ?hd (cs := #[.slice A0_0 l0_0.length c0_0, .int .i64 a0_1, .slice A0_2 l0_2.length c0_2]) (t := 32) ?hr ?_; (case hd => rfl); (case hg => rfl); (case hr => first | (go_simp; done) | (go_simp; rfl)); intro gb184 hg w40 hbox hb; have n0_ := Aside0.mk (below_step (by repeat (first | (with_reducible first | exact HB.out | apply below_alloc | apply pw_below_drewN | apply below_drew1) | exact HB.out)) hb); have n1_ := Aside0.mk (hbox); have n2_ := Aside0.mk ((by rw [hg]; exact (below_size (by repeat (first | (with_reducible first | exact HB.out | apply below_alloc | apply pw_below_drewN | apply below_drew1) | exact HB.out))) : w.heap.size ≤ gb184)); have n3_ := Aside0.mk ((by rw [hg]; exact (below_size (by repeat (first | (with_reducible first | exact HB.out | apply below_alloc | apply pw_below_drewN | apply below_drew1) | exact HB.out))) : w.heap.size ≤ gb184)); clear HB; have HB := n0_; have BK184 := n1_; have GW184 := n2_; have GE184 := n3_; clear n0_ n1_ n2_ n3_; clear hb hbox hg; have hcz41_0 : w40.cell? ⟨gb184, 0, none⟩ = some (.slice A0_0 l0_0.length c0_0) := (blk_cell BK184.out 0).trans rfl; have hcz41_1 : w40.cell? ⟨gb184, 1, none⟩ = some (.int .i64 a0_1) := (blk_cell BK184.out 1).trans rfl; have hcz41_2 : w40.cell? ⟨gb184, 2, none⟩ = some (.slice A0_2 l0_2.length c0_2) := (blk_cell BK184.out 2).trans rfl; have hfz41_0 := blk_frozen BK184.out 0; have hfz41_1 := blk_frozen BK184.out 1; have hfz41_2 := blk_frozen BK184.out 2) | ((with_reducible refine gate_callee (f := 46) rfl ?_); refine goesL_ (some 16) rfl rfl Try.func46 (by kernel_rfl) rfl #[.agg #[.slice A0_0 l0_0.length c0_0, .int .i64 a0_1, .slice A0_2 l0_2.length c0_2]] rfl (by (try simp only [List.map_toArray, List.map_cons, List.map_nil]); first | done | rfl | (simp only [List.length_drop, List.length_take]; rfl)) ?_; (with_reducible refine (live_Blocks.calls k _ _ l0_0 a0_1 _ _ l0_2 t185 t188 t191 _ ?side1 ?side2 ?side3 ?side4 A2.out).mono ?_); (case side1 => repeat (first | exact (Kd.C_below HR0_0.out HB.out) | (with_reducible refine Kd.C_alloc ?_ _) | (with_reducible refine Kd.C_drewN ?_ _) | (with_reducible refine Kd.C_drew ?_))); (case side2 => exact HC0_0.out); (case side3 => repeat (first | exact (Kd.C_below HR0_2.out HB.out) | (with_reducible refine Kd.C_alloc ?_ _) | (with_reducible refine Kd.C_drewN ?_ _) | (with_reducible refine Kd.C_drew ?_))); (case side4 => exact HC0_2.out); rintro e w42 ⟨v186, v189, rfl, ho0, ho1, hb⟩; refine ⟨_, rfl, ?_⟩; have n0_ := Aside0.mk (Kd.R_lower ho0 (below_size (by repeat (first | (with_reducible first | exact HB.out | apply below_alloc | apply pw_below_drewN | apply below_drew1 | refine below_set ?_ GE184.out) | exact HB.out)))); have n1_ := Aside0.mk (Kd.R_lower ho1 (below_size (by repeat (first | (with_reducible first | exact HB.out | apply below_alloc | apply pw_below_drewN | apply below_drew1 | refine below_set ?_ GE184.out) | exact HB.out)))); have n2_ := Aside0.mk (blk_below (g := gb184) (o := .cells #[.slice A0_0 l0_0.length c0_0, .int .i64 a0_1, .slice A0_2 l0_2.length c0_2] 32 (0, 0)) (by (with_reducible repeat (first | refine blk_drewN ?_ _ | refine blk_drew ?_ | refine blk_alloc ?_ _)); exact BK184.out) hb); have n3_ := Aside0.mk (below_step (by repeat (first | (with_reducible first | exact HB.out | apply below_alloc | apply pw_below_drewN | apply below_drew1 | refine below_set ?_ GE184.out) | exact HB.out)) hb); clear BK184; clear HB; have HO187 := n0_; have HO190 := n1_; have BK184 := n2_; have HB := n3_; clear n0_ n1_ n2_ n3_; (try clear hb); (try clear hb2); (try clear hk); (try clear hi); (try clear ho0); (try clear ho1)))
  go_ret2
  exact ⟨_, by first | rfl | (simp [errW_none, errW_some] <;> rfl) | (simp [*, errW_none, errW_some] <;> rfl), by first | exact Kd.R_nil _ _ _ _ _ | exact Kd.N_nil _ _ _ _ _ | exact Kd.V_nil _ _ _ _ _ | exact Kd.Q_nil _ _ _ _ _ | exact Kd.S_nil _ _ _ _ _, by repeat (first | (with_reducible first | exact HB.out | apply below_alloc | apply pw_below_drewN | apply below_drew1 | refine below_set ?_ GE184.out) | exact HB.out)⟩

-- NOT PRINTED: function 17 (class_see)

/-! ### class_look_fits: function 18 -/
def class_look_fits.f (l0_0 : List Int) (a0_1 : Int) (l0_2 : List Int) (l0_3 : List (S68)) (l0_4 : List Int) (a1 : Int) (a2 : Int) : Option (Bool) := if a1 ≥ 2 then (if a1 ≤ (l0_0.length : Int) then (if a2 ≥ 0 then (some (decide (a2 ≤ (wrap64 ((l0_0.length : Int) - a1))))) else (some false)) else (some false)) else (some false)
set_option maxHeartbeats 8000000 in
set_option maxRecDepth 100000 in
theorem class_look_fits.calls (A0_0 : Option Addr) (c0_0 : Nat) (l0_0 : List Int) (a0_1 : Int) (A0_2 : Option Addr) (c0_2 : Nat) (l0_2 : List Int) (A0_3 : Option Addr) (c0_3 : Nat) (l0_3 : List (S68)) (A0_4 : Option Addr) (c0_4 : Nat) (l0_4 : List Int) (a1 : Int) (a2 : Int) (r : Bool) (w : World) (hr0_0 : Kd.C (Kd.int .u32) w A0_0 l0_0.length l0_0) (hc0_0 : l0_0.length ≤ c0_0) (hr0_2 : Kd.C (Kd.int .i64) w A0_2 l0_2.length l0_2) (hc0_2 : l0_2.length ≤ c0_2) (hr0_3 : Kd.C k68 w A0_3 l0_3.length l0_3) (hc0_3 : l0_3.length ≤ c0_3) (hr0_4 : Kd.C (Kd.int .u16) w A0_4 l0_4.length l0_4) (hc0_4 : l0_4.length ≤ c0_4) (h : class_look_fits.f l0_0 a0_1 l0_2 l0_3 l0_4 a1 a2 = some r) :
  Calls Try.prog 18 #[.agg #[.slice A0_0 l0_0.length c0_0, .int .i64 a0_1, .slice A0_2 l0_2.length c0_2, .slice A0_3 l0_3.length c0_3, .slice A0_4 l0_4.length c0_4], .int .i64 a1, .int .i64 a2] w fun e w' => e = .returned (.bool r) ∧ Below w.heap.size w w' := by
 have hu47 := Try.underlying47
 have HR0_0 := Aside0.mk hr0_0
 have HC0_0 := Aside0.mk hc0_0
 clear hr0_0 hc0_0
 have HR0_2 := Aside0.mk hr0_2
 have HC0_2 := Aside0.mk hc0_2
 clear hr0_2 hc0_2
 have HR0_3 := Aside0.mk hr0_3
 have HC0_3 := Aside0.mk hc0_3
 clear hr0_3 hc0_3
 have HR0_4 := Aside0.mk hr0_4
 have HC0_4 := Aside0.mk hc0_4
 clear hr0_4 hc0_4
 have HB := Aside0.mk (Below.refl w.heap.size w)
 have H : (if a1 ≥ 2 then (if a1 ≤ (l0_0.length : Int) then (if a2 ≥ 0 then (some (decide (a2 ≤ (wrap64 ((l0_0.length : Int) - a1))))) else (some false)) else (some false)) else (some false)) = some r := h
 clear h
 by_cases c4 : a1 ≥ 2
 ·rw [if_pos c4] at H
  have c4b0 : decide (2 ≤ a1) = true := decide_eq_true c4
  clear c4
  by_cases c5 : a1 ≤ (l0_0.length : Int)
  ·rw [if_pos c5] at H
   have c5b0 : decide (a1 ≤ (l0_0.length : Int)) = true := decide_eq_true c5
   clear c5
   by_cases c6 : a2 ≥ 0
   ·rw [if_pos c6] at H
    have c6b0 : decide (0 ≤ a2) = true := decide_eq_true c6
    clear c6
    obtain rfl := Option.some.inj H
    go_enter Try.func18, Try.ntmps18
    go_wp2_with (first | ((with_reducible refine gate_dst (N := 3) rfl ?_); (try (refine gate_guard (by rfl) ?_; dsimp only)); refine box_event ?hg (N := 3) ?hd (cs := #[.slice A0_0 l0_0.length c0_0, .int .i64 a0_1, .slice A0_2 l0_2.length c0_2, .slice A0_3 l0_3.length c0_3, .slice A0_4 l0_4.length c0_4]) (t := 47) ?hr ?_; (case hd => rfl); (case hg => rfl); (case hr => first | (go_simp; done) | (go_simp; rfl)); intro gb207 hg w7 hbox hb; have n0_ := Aside0.mk (below_step (by repeat (first | (with_reducible first | exact HB.out | apply below_alloc | apply pw_below_drewN | apply below_drew1) | exact HB.out)) hb); have n1_ := Aside0.mk (hbox); have n2_ := Aside0.mk ((by rw [hg]; exact (below_size (by repeat (first | (with_reducible first | exact HB.out | apply below_alloc | apply pw_below_drewN | apply below_drew1) | exact HB.out))) : w.heap.size ≤ gb207)); have n3_ := Aside0.mk ((by rw [hg]; exact (below_size (by repeat (first | (with_reducible first | exact HB.out | apply below_alloc | apply pw_below_drewN | apply below_drew1) | exact HB.out))) : w.heap.size ≤ gb207)); clear HB; have HB := n0_; have BK207 := n1_; have GW207 := n2_; have GE207 := n3_; clear n0_ n1_ n2_ n3_; clear hb hbox hg; have hcz8_0 : w7.cell? ⟨gb207, 0, none⟩ = some (.slice A0_0 l0_0.length c0_0) := (blk_cell BK207.out 0).trans rfl; have hcz8_1 : w7.cell? ⟨gb207, 1, none⟩ = some (.int .i64 a0_1) := (blk_cell BK207.out 1).trans rfl; have hcz8_2 : w7.cell? ⟨gb207, 2, none⟩ = some (.slice A0_2 l0_2.length c0_2) := (blk_cell BK207.out 2).trans rfl; have hcz8_3 : w7.cell? ⟨gb207, 3, none⟩ = some (.slice A0_3 l0_3.length c0_3) := (blk_cell BK207.out 3).trans rfl; have hcz8_4 : w7.cell? ⟨gb207, 4, none⟩ = some (.slice A0_4 l0_4.length c0_4) := (blk_cell BK207.out 4).trans rfl; have hfz8_0 := blk_frozen BK207.out 0; have hfz8_1 := blk_frozen BK207.out 1; have hfz8_2 := blk_frozen BK207.out 2; have hfz8_3 := blk_frozen BK207.out 3; have hfz8_4 := blk_frozen BK207.out 4))
    go_ret
    exact ⟨by first | rfl | (simp [errW_none, errW_some] <;> rfl) | (simp [*, errW_none, errW_some] <;> rfl), by repeat (first | (with_reducible first | exact HB.out | apply below_alloc | apply pw_below_drewN | apply below_drew1 | refine below_set ?_ GE207.out) | exact HB.out)⟩
   ·rw [if_neg c6] at H
    have c6b0 : decide (0 ≤ a2) = false := decide_eq_false c6
    clear c6
    obtain rfl := Option.some.inj H
    go_enter Try.func18, Try.ntmps18
    go_wp2_with (first | ((with_reducible refine gate_dst (N := 3) rfl ?_); (try (refine gate_guard (by rfl) ?_; dsimp only)); refine box_event ?hg (N := 3) ?hd (cs := #[.slice A0_0 l0_0.length c0_0, .int .i64 a0_1, .slice A0_2 l0_2.length c0_2, .slice A0_3 l0_3.length c0_3, .slice A0_4 l0_4.length c0_4]) (t := 47) ?hr ?_; (case hd => rfl); (case hg => rfl); (case hr => first | (go_simp; done) | (go_simp; rfl)); intro gb207 hg w9 hbox hb; have n0_ := Aside0.mk (below_step (by repeat (first | (with_reducible first | exact HB.out | apply below_alloc | apply pw_below_drewN | apply below_drew1) | exact HB.out)) hb); have n1_ := Aside0.mk (hbox); have n2_ := Aside0.mk ((by rw [hg]; exact (below_size (by repeat (first | (with_reducible first | exact HB.out | apply below_alloc | apply pw_below_drewN | apply below_drew1) | exact HB.out))) : w.heap.size ≤ gb207)); have n3_ := Aside0.mk ((by rw [hg]; exact (below_size (by repeat (first | (with_reducible first | exact HB.out | apply below_alloc | apply pw_below_drewN | apply below_drew1) | exact HB.out))) : w.heap.size ≤ gb207)); clear HB; have HB := n0_; have BK207 := n1_; have GW207 := n2_; have GE207 := n3_; clear n0_ n1_ n2_ n3_; clear hb hbox hg; have hcz10_0 : w9.cell? ⟨gb207, 0, none⟩ = some (.slice A0_0 l0_0.length c0_0) := (blk_cell BK207.out 0).trans rfl; have hcz10_1 : w9.cell? ⟨gb207, 1, none⟩ = some (.int .i64 a0_1) := (blk_cell BK207.out 1).trans rfl; have hcz10_2 : w9.cell? ⟨gb207, 2, none⟩ = some (.slice A0_2 l0_2.length c0_2) := (blk_cell BK207.out 2).trans rfl; have hcz10_3 : w9.cell? ⟨gb207, 3, none⟩ = some (.slice A0_3 l0_3.length c0_3) := (blk_cell BK207.out 3).trans rfl; have hcz10_4 : w9.cell? ⟨gb207, 4, none⟩ = some (.slice A0_4 l0_4.length c0_4) := (blk_cell BK207.out 4).trans rfl; have hfz10_0 := blk_frozen BK207.out 0; have hfz10_1 := blk_frozen BK207.out 1; have hfz10_2 := blk_frozen BK207.out 2; have hfz10_3 := blk_frozen BK207.out 3; have hfz10_4 := blk_frozen BK207.out 4))
    go_ret
    exact ⟨by first | rfl | (simp [errW_none, errW_some] <;> rfl) | (simp [*, errW_none, errW_some] <;> rfl), by repeat (first | (with_reducible first | exact HB.out | apply below_alloc | apply pw_below_drewN | apply below_drew1 | refine below_set ?_ GE207.out) | exact HB.out)⟩
  ·rw [if_neg c5] at H
   have c5b0 : decide (a1 ≤ (l0_0.length : Int)) = false := decide_eq_false c5
   clear c5
   obtain rfl := Option.some.inj H
   go_enter Try.func18, Try.ntmps18
   go_wp2_with (first | ((with_reducible refine gate_dst (N := 3) rfl ?_); (try (refine gate_guard (by rfl) ?_; dsimp only)); refine box_event ?hg (N := 3) ?hd (cs := #[.slice A0_0 l0_0.length c0_0, .int .i64 a0_1, .slice A0_2 l0_2.length c0_2, .slice A0_3 l0_3.length c0_3, .slice A0_4 l0_4.length c0_4]) (t := 47) ?hr ?_; (case hd => rfl); (case hg => rfl); (case hr => first | (go_simp; done) | (go_simp; rfl)); intro gb207 hg w11 hbox hb; have n0_ := Aside0.mk (below_step (by repeat (first | (with_reducible first | exact HB.out | apply below_alloc | apply pw_below_drewN | apply below_drew1) | exact HB.out)) hb); have n1_ := Aside0.mk (hbox); have n2_ := Aside0.mk ((by rw [hg]; exact (below_size (by repeat (first | (with_reducible first | exact HB.out | apply below_alloc | apply pw_below_drewN | apply below_drew1) | exact HB.out))) : w.heap.size ≤ gb207)); have n3_ := Aside0.mk ((by rw [hg]; exact (below_size (by repeat (first | (with_reducible first | exact HB.out | apply below_alloc | apply pw_below_drewN | apply below_drew1) | exact HB.out))) : w.heap.size ≤ gb207)); clear HB; have HB := n0_; have BK207 := n1_; have GW207 := n2_; have GE207 := n3_; clear n0_ n1_ n2_ n3_; clear hb hbox hg; have hcz12_0 : w11.cell? ⟨gb207, 0, none⟩ = some (.slice A0_0 l0_0.length c0_0) := (blk_cell BK207.out 0).trans rfl; have hcz12_1 : w11.cell? ⟨gb207, 1, none⟩ = some (.int .i64 a0_1) := (blk_cell BK207.out 1).trans rfl; have hcz12_2 : w11.cell? ⟨gb207, 2, none⟩ = some (.slice A0_2 l0_2.length c0_2) := (blk_cell BK207.out 2).trans rfl; have hcz12_3 : w11.cell? ⟨gb207, 3, none⟩ = some (.slice A0_3 l0_3.length c0_3) := (blk_cell BK207.out 3).trans rfl; have hcz12_4 : w11.cell? ⟨gb207, 4, none⟩ = some (.slice A0_4 l0_4.length c0_4) := (blk_cell BK207.out 4).trans rfl; have hfz12_0 := blk_frozen BK207.out 0; have hfz12_1 := blk_frozen BK207.out 1; have hfz12_2 := blk_frozen BK207.out 2; have hfz12_3 := blk_frozen BK207.out 3; have hfz12_4 := blk_frozen BK207.out 4))
   go_ret
   exact ⟨by first | rfl | (simp [errW_none, errW_some] <;> rfl) | (simp [*, errW_none, errW_some] <;> rfl), by repeat (first | (with_reducible first | exact HB.out | apply below_alloc | apply pw_below_drewN | apply below_drew1 | refine below_set ?_ GE207.out) | exact HB.out)⟩
 ·rw [if_neg c4] at H
  have c4b0 : decide (2 ≤ a1) = false := decide_eq_false c4
  clear c4
  obtain rfl := Option.some.inj H
  go_enter Try.func18, Try.ntmps18
  go_wp2_with (first | ((with_reducible refine gate_dst (N := 3) rfl ?_); (try (refine gate_guard (by rfl) ?_; dsimp only)); refine box_event ?hg (N := 3) ?hd (cs := #[.slice A0_0 l0_0.length c0_0, .int .i64 a0_1, .slice A0_2 l0_2.length c0_2, .slice A0_3 l0_3.length c0_3, .slice A0_4 l0_4.length c0_4]) (t := 47) ?hr ?_; (case hd => rfl); (case hg => rfl); (case hr => first | (go_simp; done) | (go_simp; rfl)); intro gb207 hg w13 hbox hb; have n0_ := Aside0.mk (below_step (by repeat (first | (with_reducible first | exact HB.out | apply below_alloc | apply pw_below_drewN | apply below_drew1) | exact HB.out)) hb); have n1_ := Aside0.mk (hbox); have n2_ := Aside0.mk ((by rw [hg]; exact (below_size (by repeat (first | (with_reducible first | exact HB.out | apply below_alloc | apply pw_below_drewN | apply below_drew1) | exact HB.out))) : w.heap.size ≤ gb207)); have n3_ := Aside0.mk ((by rw [hg]; exact (below_size (by repeat (first | (with_reducible first | exact HB.out | apply below_alloc | apply pw_below_drewN | apply below_drew1) | exact HB.out))) : w.heap.size ≤ gb207)); clear HB; have HB := n0_; have BK207 := n1_; have GW207 := n2_; have GE207 := n3_; clear n0_ n1_ n2_ n3_; clear hb hbox hg))
  go_ret
  exact ⟨by first | rfl | (simp [errW_none, errW_some] <;> rfl) | (simp [*, errW_none, errW_some] <;> rfl), by repeat (first | (with_reducible first | exact HB.out | apply below_alloc | apply pw_below_drewN | apply below_drew1 | refine below_set ?_ GE207.out) | exact HB.out)⟩

/-! ### block_Of: function 35 -/
def block_Of.l0 : Nat → Int → List (S68) → Int → Int → Option (Int)
 | 0, _, _, _, _ => none
 | k + 1, x1, x7, x8, x9 => if x9 < x8 then (if 0 ≤ x9 then (if x9 < (x7.length : Int) then (if ((rd_T68 x7 x9).f0) ≤ x1 then (if x1 < ((rd_T68 x7 x9).f1) then (some x9) else (block_Of.l0 k x1 x7 x8 (wrap64 (x9 + 1)))) else (block_Of.l0 k x1 x7 x8 (wrap64 (x9 + 1)))) else (none)) else (none)) else (some (-1))
def block_Of.f (k : Nat) (l0 : List (S68)) (a1 : Int) : Option (Int) := block_Of.l0 k a1 l0 (l0.length : Int) 0
theorem block_Of.mono_l : ∀ k, (∀ y0 y1 y2 y3, LeO (block_Of.l0 k y0 y1 y2 y3) (block_Of.l0 (k + 1) y0 y1 y2 y3))
 | 0 => fun _ _ _ _ r h => by simp [block_Of.l0] at h
 | k + 1 => by
  have ih0 := block_Of.mono_l k
  ·intro y0 y1 y2 y3
   unfold block_Of.l0
   repeat' first
   | (with_reducible exact ih0 _ _ _ _)
   | (with_reducible exact LeO.refl _)
   | (with_reducible exact LeO.none _)
   | (with_reducible refine LeO.ite ?_ ?_)
   | (with_reducible refine LeO.bind ?_ (fun _ => ?_))
   | exact ih0 _ _ _ _
   | exact LeO.none _
   | refine LeO.ite ?_ ?_
   | refine LeO.bind ?_ (fun _ => ?_)
theorem block_Of.mono : ∀ a0 a1 k, LeO (block_Of.f k a0 a1) (block_Of.f (k + 1) a0 a1) := by
 intro a0 a1 k
 have ih0 := block_Of.mono_l k
 unfold block_Of.f
 repeat' first
   | (with_reducible exact ih0 _ _ _ _)
   | (with_reducible exact LeO.refl _)
   | (with_reducible exact LeO.none _)
   | (with_reducible refine LeO.ite ?_ ?_)
   | (with_reducible refine LeO.bind ?_ (fun _ => ?_))
   | exact ih0 _ _ _ _
   | exact LeO.none _
   | refine LeO.ite ?_ ?_
   | refine LeO.bind ?_ (fun _ => ?_)
set_option maxHeartbeats 8000000 in
set_option maxRecDepth 100000 in
theorem block_Of.calls (k : Nat) (A0 : Option Addr) (c0 : Nat) (l0 : List (S68)) (a1 : Int) (r : Int) (w : World) (hr0 : Kd.C k68 w A0 l0.length l0) (hc0 : l0.length ≤ c0) (h : block_Of.f k l0 a1 = some r) :
  Calls Try.prog 35 #[.slice A0 l0.length c0, .int .i64 a1] w fun e w' => e = .returned (.int .i64 r) ∧ Below w.heap.size w w' := by
 have hu68 := Try.underlying68
 have HR0 := Aside0.mk hr0
 have HC0 := Aside0.mk hc0
 clear hr0 hc0
 have HB := Aside0.mk (Below.refl w.heap.size w)
 have H : (block_Of.l0 k a1 l0 (l0.length : Int) 0) = some r := h
 clear h
 have H' := Aside0.mk H
 clear H
 go_enter Try.func35, Try.ntmps35
 go_wp2
 go_loopg [9] k (fun kq v9 w' => ∃ (x9_1 : Int), v9 = .int .i64 x9_1 ∧ Aside0 (block_Of.l0 kq a1 l0 (l0.length : Int) x9_1 = some r) ∧ Aside0 (kq ≤ k) ∧ Aside0 (Below w.heap.size w w'))
 case atStart => exact ⟨(0), (by first | rfl | (simp; done) | (simp [*]; done)), H', ⟨Nat.le_refl _⟩, ⟨by repeat (first | (with_reducible first | exact HB.out | apply below_alloc | apply pw_below_drewN | apply below_drew1) | exact HB.out)⟩⟩
 case round =>
  clear H'
  try clear p2
  obtain ⟨x9_1, rfl, HA, HK1, HB⟩ := hrel
  cases gk with
  | zero => exact absurd HA.out (by simp [block_Of.l0])
  | succ k1 =>
   have H := HA.out
   clear HA
   simp only [block_Of.l0] at H
   by_cases c3 : x9_1 < (l0.length : Int)
   ·rw [if_pos c3] at H
    have c3b0 : decide (x9_1 < (l0.length : Int)) = true := decide_eq_true c3
    clear c3
    by_cases c4 : 0 ≤ x9_1
    ·rw [if_pos c4] at H
     have c4b0 : decide (0 ≤ x9_1) = true := decide_eq_true c4
     clear c4
     by_cases c5 : x9_1 < (l0.length : Int)
     ·rw [if_pos c5] at H
      have c5b0 : decide (x9_1 < (l0.length : Int)) = true := decide_eq_true c5
      clear c5
      by_cases c6 : ((rd_T68 l0 x9_1).f0) ≤ a1
      ·rw [if_pos c6] at H
       have c6b0 : decide (((rd_T68 l0 x9_1).f0) ≤ a1) = true := decide_eq_true c6
       clear c6
       by_cases c7 : a1 < ((rd_T68 l0 x9_1).f1)
       ·rw [if_pos c7] at H
        have c7b0 : decide (a1 < ((rd_T68 l0 x9_1).f1)) = true := decide_eq_true c7
        clear c7
        obtain rfl := Option.some.inj H
        have p208 : 0 ≤ (x9_1 : Int) := of_decide_eq_true (by first | (with_reducible assumption) | assumption)
        have q208 : x9_1 < (l0.length : Int) := of_decide_eq_true (by first | (with_reducible assumption) | assumption)
        obtain ⟨ad208, e208, hx208_0, hx208_1⟩ := at_T68 HR0.out x9_1 p208 q208
        cases e208
        replace hx208_0 := (HB.out.cell (World.block_lt_of_cell? w _ hx208_0)).trans hx208_0
        replace hx208_1 := (HB.out.cell (World.block_lt_of_cell? w _ hx208_1)).trans hx208_1
        replace p208 := eq_true p208
        replace q208 := eq_true q208
        go_wp2_with (first | ((with_reducible refine gate_dst (N := 6) rfl ?_); refine box_event ?hg (N := 6) ?hd (cs := #[.int .i64 0, .int .i64 0]) (t := 68) ?hr ?_; (case hd => rfl); (case hg => rfl); (case hr => first | (go_simp; done) | (go_simp; rfl)); intro gb209 hg w8 hbox hb; have n0_ := Aside0.mk (below_step (by repeat (first | (with_reducible first | exact HB.out | apply below_alloc | apply pw_below_drewN | apply below_drew1) | exact HB.out)) hb); have n1_ := Aside0.mk (hbox); have n2_ := Aside0.mk ((by rw [hg]; exact (below_size (by repeat (first | (with_reducible first | exact HB.out | apply below_alloc | apply pw_below_drewN | apply below_drew1) | exact HB.out))) : w.heap.size ≤ gb209)); have n3_ := Aside0.mk ((by rw [hg]; exact (below_size (by repeat (first | (with_reducible first | exact HB.out | apply below_alloc | apply pw_below_drewN | apply below_drew1) | exact HB.out))) : w.heap.size ≤ gb209)); clear HB; have HB := n0_; have BK209 := n1_; have GW209 := n2_; have GE209 := n3_; clear n0_ n1_ n2_ n3_; clear hb hbox hg; have hcz9_0 : w8.cell? ⟨gb209, 0, none⟩ = some (.int .i64 0) := (blk_cell BK209.out 0).trans rfl; have hcz9_1 : w8.cell? ⟨gb209, 1, none⟩ = some (.int .i64 0) := (blk_cell BK209.out 1).trans rfl; have hfz9_0 := blk_frozen BK209.out 0; have hfz9_1 := blk_frozen BK209.out 1))
        go_ret
        exact ⟨by first | rfl | (simp [errW_none, errW_some] <;> rfl) | (simp [*, errW_none, errW_some] <;> rfl), by repeat (first | (with_reducible first | exact HB.out | apply below_alloc | apply pw_below_drewN | apply below_drew1 | refine below_set ?_ GE209.out) | exact HB.out)⟩
       ·rw [if_neg c7] at H
        have c7b0 : decide (a1 < ((rd_T68 l0 x9_1).f1)) = false := decide_eq_false c7
        clear c7
        have H' := Aside0.mk H
        clear H
        have p208 : 0 ≤ (x9_1 : Int) := of_decide_eq_true (by first | (with_reducible assumption) | assumption)
        have q208 : x9_1 < (l0.length : Int) := of_decide_eq_true (by first | (with_reducible assumption) | assumption)
        obtain ⟨ad208, e208, hx208_0, hx208_1⟩ := at_T68 HR0.out x9_1 p208 q208
        cases e208
        replace hx208_0 := (HB.out.cell (World.block_lt_of_cell? w _ hx208_0)).trans hx208_0
        replace hx208_1 := (HB.out.cell (World.block_lt_of_cell? w _ hx208_1)).trans hx208_1
        replace p208 := eq_true p208
        replace q208 := eq_true q208
        go_wp2_with (first | ((with_reducible refine gate_dst (N := 6) rfl ?_); refine box_event ?hg (N := 6) ?hd (cs := #[.int .i64 0, .int .i64 0]) (t := 68) ?hr ?_; (case hd => rfl); (case hg => rfl); (case hr => first | (go_simp; done) | (go_simp; rfl)); intro gb209 hg w10 hbox hb; have n0_ := Aside0.mk (below_step (by repeat (first | (with_reducible first | exact HB.out | apply below_alloc | apply pw_below_drewN | apply below_drew1) | exact HB.out)) hb); have n1_ := Aside0.mk (hbox); have n2_ := Aside0.mk ((by rw [hg]; exact (below_size (by repeat (first | (with_reducible first | exact HB.out | apply below_alloc | apply pw_below_drewN | apply below_drew1) | exact HB.out))) : w.heap.size ≤ gb209)); have n3_ := Aside0.mk ((by rw [hg]; exact (below_size (by repeat (first | (with_reducible first | exact HB.out | apply below_alloc | apply pw_below_drewN | apply below_drew1) | exact HB.out))) : w.heap.size ≤ gb209)); clear HB; have HB := n0_; have BK209 := n1_; have GW209 := n2_; have GE209 := n3_; clear n0_ n1_ n2_ n3_; clear hb hbox hg; have hcz11_0 : w10.cell? ⟨gb209, 0, none⟩ = some (.int .i64 0) := (blk_cell BK209.out 0).trans rfl; have hcz11_1 : w10.cell? ⟨gb209, 1, none⟩ = some (.int .i64 0) := (blk_cell BK209.out 1).trans rfl; have hfz11_0 := blk_frozen BK209.out 0; have hfz11_1 := blk_frozen BK209.out 1))
        go_roundg k1
        case measure => have := HK1.out; omega
        case rel => exact ⟨(wrap64 (x9_1 + 1)), (by first | rfl | (simp; done) | (simp [*]; done)), H', ⟨by have := HK1.out; omega⟩, ⟨by repeat (first | (with_reducible first | exact HB.out | apply below_alloc | apply pw_below_drewN | apply below_drew1 | refine below_set ?_ GE209.out) | exact HB.out)⟩⟩
      ·rw [if_neg c6] at H
       have c6b0 : decide (((rd_T68 l0 x9_1).f0) ≤ a1) = false := decide_eq_false c6
       clear c6
       have H' := Aside0.mk H
       clear H
       have p208 : 0 ≤ (x9_1 : Int) := of_decide_eq_true (by first | (with_reducible assumption) | assumption)
       have q208 : x9_1 < (l0.length : Int) := of_decide_eq_true (by first | (with_reducible assumption) | assumption)
       obtain ⟨ad208, e208, hx208_0, hx208_1⟩ := at_T68 HR0.out x9_1 p208 q208
       cases e208
       replace hx208_0 := (HB.out.cell (World.block_lt_of_cell? w _ hx208_0)).trans hx208_0
       replace hx208_1 := (HB.out.cell (World.block_lt_of_cell? w _ hx208_1)).trans hx208_1
       replace p208 := eq_true p208
       replace q208 := eq_true q208
       go_wp2_with (first | ((with_reducible refine gate_dst (N := 6) rfl ?_); refine box_event ?hg (N := 6) ?hd (cs := #[.int .i64 0, .int .i64 0]) (t := 68) ?hr ?_; (case hd => rfl); (case hg => rfl); (case hr => first | (go_simp; done) | (go_simp; rfl)); intro gb209 hg w12 hbox hb; have n0_ := Aside0.mk (below_step (by repeat (first | (with_reducible first | exact HB.out | apply below_alloc | apply pw_below_drewN | apply below_drew1) | exact HB.out)) hb); have n1_ := Aside0.mk (hbox); have n2_ := Aside0.mk ((by rw [hg]; exact (below_size (by repeat (first | (with_reducible first | exact HB.out | apply below_alloc | apply pw_below_drewN | apply below_drew1) | exact HB.out))) : w.heap.size ≤ gb209)); have n3_ := Aside0.mk ((by rw [hg]; exact (below_size (by repeat (first | (with_reducible first | exact HB.out | apply below_alloc | apply pw_below_drewN | apply below_drew1) | exact HB.out))) : w.heap.size ≤ gb209)); clear HB; have HB := n0_; have BK209 := n1_; have GW209 := n2_; have GE209 := n3_; clear n0_ n1_ n2_ n3_; clear hb hbox hg; have hcz13_0 : w12.cell? ⟨gb209, 0, none⟩ = some (.int .i64 0) := (blk_cell BK209.out 0).trans rfl; have hcz13_1 : w12.cell? ⟨gb209, 1, none⟩ = some (.int .i64 0) := (blk_cell BK209.out 1).trans rfl; have hfz13_0 := blk_frozen BK209.out 0; have hfz13_1 := blk_frozen BK209.out 1))
       go_roundg k1
       case measure => have := HK1.out; omega
       case rel => exact ⟨(wrap64 (x9_1 + 1)), (by first | rfl | (simp; done) | (simp [*]; done)), H', ⟨by have := HK1.out; omega⟩, ⟨by repeat (first | (with_reducible first | exact HB.out | apply below_alloc | apply pw_below_drewN | apply below_drew1 | refine below_set ?_ GE209.out) | exact HB.out)⟩⟩
     ·rw [if_neg c5] at H
      exact absurd H (by simp)
    ·rw [if_neg c4] at H
     exact absurd H (by simp)
   ·rw [if_neg c3] at H
    have c3b0 : decide (x9_1 < (l0.length : Int)) = false := decide_eq_false c3
    clear c3
    obtain rfl := Option.some.inj H
    go_wp2
    go_ret
    exact ⟨by first | rfl | (simp [errW_none, errW_some] <;> rfl) | (simp [*, errW_none, errW_some] <;> rfl), by repeat (first | (with_reducible first | exact HB.out | apply below_alloc | apply pw_below_drewN | apply below_drew1) | exact HB.out)⟩

/-! ### class_look_of: function 19 -/
-- IMPORTS Derived.WalkMore Derived.Deep.RegionHeld3 Derived.BigGuardPart Derived.StillTailTactics Derived.Deep.RegionWith
/- class.look.of, where the sequence is a Tail, or is Dead and needs no register: elsewhere nothing is said (no statement that can be proved needs it). -/
theorem new_at {w : World} {n : Nat} (o : Obj) (h : w.heap.size = n) : (w.alloc o).heap[n]? = some o := h ▸ heap_alloc_new w o
def class_look_of.reads (k : Nat) : List Int → Option Unit
 | [] => some ()
 | x :: r => (touch_Reads.f k x).bind fun _ => (touch_Writes.f k x).bind fun _ => class_look_of.reads k r
def class_look_of.f (k : Nat) (l0_0 : List Int) (a0_1 : Int) (l0_2 : List Int) (l0_3 : List S68) (l0_4 : List Int) (a1 : Int) (a2 : Int) : Option (Int × Int × Int × Bool) :=
 if 0 ≤ a2 ∧ 1 ≤ a1 ∧ a2 + a1 ≤ l0_0.length ∧ l0_0.length ≤ 16384 ∧ l0_4.length = l0_0.length then
  (class_Kind.f k ((l0_0.take (a2 + a1).toNat).drop a2.toNat)).bind fun kk => (class_look_of.reads k ((l0_0.take (a2 + a1).toNat).drop a2.toNat)).bind fun _ => (block_Of.f k l0_3 a2).bind fun b =>
   if 0 ≤ b ∧ b < l0_3.length ∧ a2 + a1 ≤ (rd_T68 l0_3 b).f1 then
    if kk = 1 then some (a2, 1, 0, true)
    else if kk = 3 ∧ Go.bits .and .u16 (rd l0_4 (a2 + a1 - 1)) 32768 = 0 then some (a2, 3, 0, true) else none
   else none
 else none
theorem class_look_of.reads_at (k : Nat) : ∀ l, class_look_of.reads k l = some () → ∀ i : Nat, i < l.length → ∃ r s, touch_Reads.f k (rd l (i : Int)) = some r ∧ touch_Writes.f k (rd l (i : Int)) = some s
 | [], _, i, hi => by simp at hi
 | x :: l, h, i, hi => by
  obtain ⟨r, h1, h⟩ := Option.bind_eq_some_iff.1 h
  obtain ⟨s, h2, h⟩ := Option.bind_eq_some_iff.1 h
  cases i with
  | zero => exact ⟨r, s, by simpa [rd] using h1, by simpa [rd] using h2⟩
  | succ i =>
   obtain ⟨r', s', h3, h4⟩ := class_look_of.reads_at k l h i (by simpa using hi)
   exact ⟨r', s', by simpa [rd] using h3, by simpa [rd] using h4⟩
theorem class_look_of.reads_mono (k : Nat) : ∀ l, LeO (class_look_of.reads k l) (class_look_of.reads (k + 1) l)
 | [] => LeO.refl _
 | x :: r => LeO.bind (touch_Reads.mono x k) (fun _ => LeO.bind (touch_Writes.mono x k) (fun _ => class_look_of.reads_mono k r))
theorem class_look_of.mono : ∀ a0 a1 a2 a3 a4 a5 a6 k, LeO (class_look_of.f k a0 a1 a2 a3 a4 a5 a6) (class_look_of.f (k + 1) a0 a1 a2 a3 a4 a5 a6) := by
 intro a0 a1 a2 a3 a4 a5 a6 k
 exact LeO.ite (LeO.bind (class_Kind.mono _ _) (fun kk => LeO.bind (class_look_of.reads_mono _ _) (fun _ => LeO.bind (block_Of.mono _ _ _) (fun b => LeO.refl _)))) (LeO.refl _)
set_option maxHeartbeats 16000000 in
set_option maxRecDepth 100000 in
theorem class_look_of.tail (kk : Int) (b9 : Nat) (w : World) (h : w.heap[b9]? = some (.cells #[.int .i8 kk] 25 (0, 0))) : Calls Try.prog 31 #[.pointer (some ⟨b9, 0, none⟩)] w fun e w' => e = .returned (.bool (kk == 1)) ∧ w' = w := by
 have c0 := (blk_cell h 0).trans rfl
 clear h
 go_enter Try.func31, Try.ntmps31
 go_wp2_with fail
 go_ret
 exact ⟨rfl, rfl⟩
set_option maxHeartbeats 16000000 in
set_option maxRecDepth 100000 in
theorem class_look_of.thunk (kk : Int) (b9 : Nat) (w : World) (h : w.heap[b9]? = some (.cells #[.int .i8 kk] 25 (0, 0))) : Calls Try.prog 32 #[.pointer (some ⟨b9, 0, none⟩)] w fun e w' => e = .returned (.bool (kk == 2)) ∧ w' = w := by
 have c0 := (blk_cell h 0).trans rfl
 clear h
 go_enter Try.func32, Try.ntmps32
 go_wp2_with fail
 go_ret
 exact ⟨rfl, rfl⟩
set_option maxHeartbeats 16000000 in
set_option maxRecDepth 100000 in
theorem class_look_of.dead (a1 a2 x : Int) (b3 b5 b4 : Nat) (v0 v1 v2 v3 : Value) (ad : Addr) (n c : Nat) (w : World) (h3 : w.heap[b3]? = some (.cells #[v0, v1, v2, v3, .slice (some ad) n c] 47 (0, 0))) (h5 : w.heap[b5]? = some (.cells #[.int .i64 a2] 3 (0, 0))) (h4 : w.heap[b4]? = some (.cells #[.int .i64 a1] 3 (0, 0)))
  (hx : w.cell? (ad.add ((a2 + a1).toNat - 1)) = some (.int .u16 x)) (q1 : 1 ≤ a2 + a1) (q2 : a2 + a1 - 1 < (n : Int)) (hs : IntKind.i64.wrap (a2 + a1) = a2 + a1) (hs2 : IntKind.i64.wrap (a2 + a1 - 1) = a2 + a1 - 1) : Calls Try.prog 33 #[.pointer (some ⟨b3, 0, none⟩), .pointer (some ⟨b5, 0, none⟩), .pointer (some ⟨b4, 0, none⟩)] w fun e w' => e = .returned (.bool (Go.bits .and .u16 x 32768 == 0)) ∧ w' = w := by
 have c3 := (blk_cell h3 4).trans rfl
 have c4 := (blk_cell h4 0).trans rfl
 have c5 := (blk_cell h5 0).trans rfl
 clear h3 h4 h5
 go_enter Try.func33, Try.ntmps33
 go_wp2_with fail
 go_ret
 exact ⟨rfl, rfl⟩
set_option maxHeartbeats 16000000 in
set_option maxRecDepth 100000 in
theorem class_look_of.calls (k : Nat) (A0_0 : Option Addr) (c0_0 : Nat) (l0_0 : List Int) (a0_1 : Int) (A0_2 : Option Addr) (c0_2 : Nat) (l0_2 : List Int) (A0_3 : Option Addr) (c0_3 : Nat) (l0_3 : List S68) (A0_4 : Option Addr) (c0_4 : Nat) (l0_4 : List Int) (a1 : Int) (a2 : Int) (r1 : Int) (r2 : Int) (r3 : Int) (r4 : Bool) (w : World) (hr0_0 : Kd.C (Kd.int .u32) w A0_0 l0_0.length l0_0) (hc0_0 : l0_0.length ≤ c0_0) (hr0_2 : Kd.C (Kd.int .i64) w A0_2 l0_2.length l0_2) (hc0_2 : l0_2.length ≤ c0_2) (hr0_3 : Kd.C k68 w A0_3 l0_3.length l0_3) (hc0_3 : l0_3.length ≤ c0_3) (hr0_4 : Kd.C (Kd.int .u16) w A0_4 l0_4.length l0_4) (hc0_4 : l0_4.length ≤ c0_4) (h : class_look_of.f k l0_0 a0_1 l0_2 l0_3 l0_4 a1 a2 = some (r1, r2, r3, r4)) :
  Calls Try.prog 19 #[.agg #[.slice A0_0 l0_0.length c0_0, .int .i64 a0_1, .slice A0_2 l0_2.length c0_2, .slice A0_3 l0_3.length c0_3, .slice A0_4 l0_4.length c0_4], .int .i64 a1, .int .i64 a2] w fun e w' => e = .returned (.tuple #[.agg #[.int .i64 r1, .int .i8 r2, .int .i8 r3], .bool r4]) ∧ Below w.heap.size w w' := by
 by_cases hg : 0 ≤ a2 ∧ 1 ≤ a1 ∧ a2 + a1 ≤ l0_0.length ∧ l0_0.length ≤ 16384 ∧ l0_4.length = l0_0.length
 case neg => rw [class_look_of.f, if_neg hg] at h; cases h
 rw [class_look_of.f, if_pos hg] at h
 replace h := Option.bind_eq_some_iff.1 h
 obtain ⟨kk, h1, h⟩ := h
 replace h := Option.bind_eq_some_iff.1 h
 obtain ⟨_, h2, h⟩ := h
 replace h := Option.bind_eq_some_iff.1 h
 obtain ⟨b, h3, h⟩ := h
 by_cases hb : 0 ≤ b ∧ b < l0_3.length ∧ a2 + a1 ≤ (rd_T68 l0_3 b).f1
 case neg => rw [if_neg hb] at h; cases h
 rw [if_pos hb] at h
 obtain ⟨g1, g2, g3, g4, g5⟩ := hg
 obtain ⟨b1, b2, b3⟩ := hb
 replace g5 := Aside0.mk g5
 have HR0_0 := Aside0.mk hr0_0
 have HC0_0 := Aside0.mk hc0_0
 have HR0_3 := Aside0.mk hr0_3
 have HC0_3 := Aside0.mk hc0_3
 have HR0_4 := Aside0.mk hr0_4
 have HC0_4 := Aside0.mk hc0_4
 have H := Aside0.mk h
 have H1 := Aside0.mk h1
 have H2 := Aside0.mk h2
 have H3 := Aside0.mk h3
 obtain ⟨ii, hii, _, hisz, _⟩ := info_parts info29
 obtain ⟨AS, hcut, hAS, hcS⟩ := print_mid_of (P := Try.prog) (Value.int .u32) 0 22 29 .i64 .i64 Try.underlying22 hii hisz A0_0 c0_0 l0_0 a2 (a2 + a1) (by omega) (by omega) (by omega) HC0_0.out
 have HAS := Aside0.mk (Kd.C_of_reads (h1 := fun _ => rfl) (hAS w (Kd.reads_of_C HR0_0.out)))
 have HCS := Aside0.mk hcS
 clear hii hisz hAS hcS hr0_0 hc0_0 hr0_2 hc0_2 hr0_3 hc0_3 hr0_4 hc0_4 h h1 h2 h3
 obtain ⟨L, hL⟩ : ∃ L, L = ((l0_0.take (a2 + a1).toNat).drop a2.toNat) := ⟨_, rfl⟩
 rw [← hL] at HAS HCS H1 H2 hcut
 have hLl : L.length ≤ 16384 := by rw [hL, List.length_drop, List.length_take]; omega
 have hs : IntKind.i64.wrap (a2 + a1) = a2 + a1 := by
  rw [i64_w]
  unfold Go.RowKit.wrap64
  omega
 have hs2 : IntKind.i64.wrap (a2 + a1 - 1) = a2 + a1 - 1 := by
  rw [i64_w]
  unfold Go.RowKit.wrap64
  omega
 clear hL
 have hmf : ∀ (fn : Fn) (first cap : Array Value) (w : World), (Instr.makeFunc fn first cap).run Try.prog w = .ok (.func fn first cap) w := fun _ _ _ _ => rfl
 go_enter Try.func19, Try.ntmps19
 go_wp2_with fail
 go_step3
 go_wp2_with fail
 obtain ⟨o3, ho3⟩ : ∃ o, o = Obj.cells #[.slice A0_0 l0_0.length c0_0, .int .i64 a0_1, .slice A0_2 l0_2.length c0_2, .slice A0_3 l0_3.length c0_3, .slice A0_4 l0_4.length c0_4] 47 := ⟨_, rfl⟩
 rw [← ho3]
 have HBA := Aside0.mk (below_alloc (below_alloc (below_alloc (below_alloc (Below.refl w.heap.size w) o3) (Obj.cells #[.int .i64 a1] 3)) (Obj.cells #[.int .i64 a2] 3)) (Obj.cells #[.int .i64 0, .int .i8 0, .int .i8 0] 34))
 refine (class_Kind.calls k AS (c0_0 - a2.toNat) L kk _ (Kd.C_alloc (Kd.C_alloc (Kd.C_alloc (Kd.C_alloc HAS.out _) _) _) _) HCS.out H1.out).mono ?_
 rintro e w1 ⟨rfl, hb⟩
 have h3 := blk_below (blk_alloc (blk_alloc (blk_alloc (new_at o3 (n := w.heap.size) rfl) _) _) _) hb
 have h4 := blk_below (blk_alloc (blk_alloc (new_at (Obj.cells #[.int .i64 a1] 3) (n := w.heap.size + 1) (by simp)) _) _) hb
 have h5 := blk_below (blk_alloc (new_at (Obj.cells #[.int .i64 a2] 3) (n := w.heap.size + 1 + 1) (by simp)) _) hb
 have h6 := blk_below (new_at (Obj.cells #[.int .i64 0, .int .i8 0, .int .i8 0] 34) (n := w.heap.size + 1 + 1 + 1) (by simp)) hb
 have HB := Aside0.mk (below_then HBA.out HBA.out.size hb)
 have hsz : w.heap.size + 4 ≤ w1.heap.size := by have := hb.size; simp at this; omega
 rw [ho3] at h3
 clear hb ho3 HBA
 generalize e6 : w.heap.size + 1 + 1 + 1 = b6 at h6 ⊢
 generalize e5 : w.heap.size + 1 + 1 = b5 at h5 ⊢
 generalize e4 : w.heap.size + 1 = b4 at h4 ⊢
 generalize e3 : w.heap.size = b3 at h3 ⊢
 have E3 := Aside0.mk e3
 have E4 := Aside0.mk e4
 have E5 := Aside0.mk e5
 have E6 := Aside0.mk e6
 have HSZ := Aside0.mk hsz
 have c5 := (blk_cell (blk_alloc h5 (Obj.cells #[.int .i8 kk] 25)) 0).trans rfl
 have H3' := Aside0.mk h3
 have H4' := Aside0.mk h4
 have H5' := Aside0.mk h5
 have H6' := Aside0.mk h6
 clear e3 e4 e5 e6 hsz h3 h4 h5 h6
 go_wp2_with fail
 obtain ⟨W, hW⟩ : ∃ W, W = (((w1.alloc (Obj.cells #[.int .i8 kk] 25)).alloc (Obj.cells #[.int .i64 a2, .int .i8 0, .int .i8 0] 34)).alloc (Obj.cells #[.int .u16 0] 65)) := ⟨_, rfl⟩
 rw [← hW]
 have h3 := blk_alloc (blk_alloc (blk_alloc H3'.out (Obj.cells #[.int .i8 kk] 25)) (Obj.cells #[.int .i64 a2, .int .i8 0, .int .i8 0] 34)) (Obj.cells #[.int .u16 0] 65)
 have h4 := blk_alloc (blk_alloc (blk_alloc H4'.out (Obj.cells #[.int .i8 kk] 25)) (Obj.cells #[.int .i64 a2, .int .i8 0, .int .i8 0] 34)) (Obj.cells #[.int .u16 0] 65)
 have h5 := blk_alloc (blk_alloc (blk_alloc H5'.out (Obj.cells #[.int .i8 kk] 25)) (Obj.cells #[.int .i64 a2, .int .i8 0, .int .i8 0] 34)) (Obj.cells #[.int .u16 0] 65)
 have h6 := blk_alloc (blk_alloc (blk_alloc H6'.out (Obj.cells #[.int .i8 kk] 25)) (Obj.cells #[.int .i64 a2, .int .i8 0, .int .i8 0] 34)) (Obj.cells #[.int .u16 0] 65)
 have h9 := blk_alloc (blk_alloc (new_at (w := w1) (Obj.cells #[.int .i8 kk] 25) rfl) (Obj.cells #[.int .i64 a2, .int .i8 0, .int .i8 0] 34)) (Obj.cells #[.int .u16 0] 65)
 have h10 := blk_alloc (new_at (w := w1.alloc (Obj.cells #[.int .i8 kk] 25)) (Obj.cells #[.int .i64 a2, .int .i8 0, .int .i8 0] 34) (n := w1.heap.size + 1) (by simp)) (Obj.cells #[.int .u16 0] 65)
 have h11 := new_at (w := (w1.alloc (Obj.cells #[.int .i8 kk] 25)).alloc (Obj.cells #[.int .i64 a2, .int .i8 0, .int .i8 0] 34)) (Obj.cells #[.int .u16 0] 65) (n := w1.heap.size + 1 + 1) (by simp)
 have HBW := Aside0.mk (below_alloc (below_alloc (below_alloc HB.out (Obj.cells #[.int .i8 kk] 25)) (Obj.cells #[.int .i64 a2, .int .i8 0, .int .i8 0] 34)) (Obj.cells #[.int .u16 0] 65))
 rw [← hW] at h3 h4 h5 h6 h9 h10 h11 HBW
 generalize e11 : w1.heap.size + 1 + 1 = b11 at h11 ⊢
 generalize e10 : w1.heap.size + 1 = b10 at h10 ⊢
 generalize e9 : w1.heap.size = b9 at h9 ⊢
 have E := Aside0.mk (show b3 < b9 ∧ b4 < b9 ∧ b5 < b9 ∧ b6 < b9 ∧ b9 < b10 ∧ b10 < b11 ∧ b3 < b4 ∧ b4 < b5 ∧ b5 < b6 ∧ w.heap.size = b3 from by have := HSZ.out; have := E3.out; have := E4.out; have := E5.out; have := E6.out; omega)
 have F3 := Aside0.mk h3
 have F4 := Aside0.mk h4
 have F5 := Aside0.mk h5
 have F6 := Aside0.mk h6
 have F9 := Aside0.mk h9
 have F10 := Aside0.mk h10
 have F11 := Aside0.mk h11
 clear e9 e10 e11 h3 h4 h5 h6 h9 h10 h11 H3' H4' H5' H6' E3 E4 E5 E6 HSZ HB hW c5
 go_loopw [34] (fun v wr => ∃ (i : Nat) (u : Int), v = .int .i64 i ∧ i ≤ L.length ∧ Aside0 (wr.heap[b11]? = some (.cells #[.int .u16 u] 65 (0, 0))) ∧ Aside0 (Below b11 W wr)) (fun v _ => L.length - (intOf v).toNat)
 case atStart => exact ⟨0, 0, rfl, Nat.zero_le _, F11, ⟨Below.refl _ _⟩⟩
 case round =>
  obtain ⟨i, u, rfl, hi, HU, HBr⟩ := hrel
  by_cases hlt : i < L.length
  ·obtain ⟨x, y, hx, hy⟩ := class_look_of.reads_at k L H2.out i hlt
   have HX := Aside0.mk hx
   have HY := Aside0.mk hy
   clear hx hy
   have HBx := Aside0.mk (HBW.out.trans (HBr.out.mono (by have := E.out; omega)))
   obtain ⟨ad, e1, hc1⟩ := Kd.at_int (Kd.C_below HAS.out HBx.out) i (by omega) (by omega)
   cases e1
   rw [Int.toNat_natCast] at hc1
   go_wp2_with fail
   have cu := (blk_cell HU.out 0).trans rfl
   have cf := blk_frozen HU.out 0
   go_region_with (first | (go_at_call 29; refine (touch_Reads.calls k _ x _ HX.out).mono ?_; rintro e w7 ⟨rfl, hb⟩; have HW : Aside0 (Below b11 W w7) := ⟨by first | exact HW.out.trans (hb.mono (Nat.le_of_lt (blk_lt HV.out))) | exact (below_drew HBr.out).trans (hb.mono (Nat.le_of_lt (blk_lt (blk_drew HU.out))))⟩; have HV : Aside0 (w7.heap[b11]? = some (.cells #[.int .u16 u] 65 (0, 0))) := ⟨by first | exact blk_below HV.out hb | exact blk_below (blk_drew HU.out) hb⟩; have cv := (blk_cell HV.out 0).trans rfl; have cw := blk_frozen HV.out 0; clear hb) | (go_at_call 30; refine (touch_Writes.calls k _ y _ HY.out).mono ?_; rintro e w8 ⟨rfl, hb⟩; have HW : Aside0 (Below b11 W w8) := ⟨by first | exact HW.out.trans (hb.mono (Nat.le_of_lt (blk_lt HV.out))) | exact (below_drew HBr.out).trans (hb.mono (Nat.le_of_lt (blk_lt (blk_drew HU.out))))⟩; have HV : Aside0 (w8.heap[b11]? = some (.cells #[.int .u16 u] 65 (0, 0))) := ⟨by first | exact blk_below HV.out hb | exact blk_below (blk_drew HU.out) hb⟩; have cv := (blk_cell HV.out 0).trans rfl; have cw := blk_frozen HV.out 0; clear hb))
   all_goals
    go_wp2_with fail
    go_roundw
    case rel => exact ⟨i + 1, _, by go_num, hlt, ⟨blk_set HV.out 0 _⟩, ⟨HW.out.setCell (show b11 ≤ (Addr.mk b11 0 none).block from Nat.le_refl _) _⟩⟩
    case measure => simp [intOf]; omega
  ·have HBx := Aside0.mk (HBW.out.trans (HBr.out.mono (by have := E.out; omega)))
   have G3 := (HBr.out.block b3 (by have := E.out; omega)).trans F3.out
   have G4 := (HBr.out.block b4 (by have := E.out; omega)).trans F4.out
   have G5 := (HBr.out.block b5 (by have := E.out; omega)).trans F5.out
   obtain ⟨ad, e1, hc1⟩ := Kd.at_int (Kd.C_below HR0_4.out HBx.out) (a2 + a1 - 1) (by omega) (by have := g5.out; omega)
   cases e1
   have k34 := (blk_cell G3 4).trans rfl
   have k4 := (blk_cell G4 0).trans rfl
   have k5 := (blk_cell G5 0).trans rfl
   have cu := (blk_cell HU.out 0).trans rfl
   have cf := blk_frozen HU.out 0
   rw [show (a2 + a1 - 1).toNat = (a2 + a1).toNat - 1 by omega] at hc1
   have q1 : 1 ≤ a2 + a1 := by omega
   have q2 : a2 + a1 - 1 < (l0_4.length : Int) := by have := g5.out; omega
   go_wp2_with fail
   go_region
   have HS2 := Aside0.mk (below_drew (HBr.out.setCell (show b11 ≤ (Addr.mk b11 0 none).block from Nat.le_refl _) (.int .u16 (Go.bits .or .u16 u (rd l0_4 (a2 + a1 - 1))))))
   clear G3 G4 G5 k34 k4 k5 cu cf HU HBx
   generalize hW2 : (wr.setCell (Addr.mk b11 0 none) (.int .u16 (Go.bits .or .u16 u (rd l0_4 (a2 + a1 - 1))))).drew = W2 at HS2 ⊢
   clear hW2 HBr
   have HBx := Aside0.mk (HBW.out.trans (HS2.out.mono (by have := E.out; omega)))
   have G3 := Aside0.mk ((HS2.out.block b3 (by have := E.out; omega)).trans F3.out)
   have G4 := Aside0.mk ((HS2.out.block b4 (by have := E.out; omega)).trans F4.out)
   have G5 := Aside0.mk ((HS2.out.block b5 (by have := E.out; omega)).trans F5.out)
   have G6 := Aside0.mk ((HS2.out.block b6 (by have := E.out; omega)).trans F6.out)
   have G9 := Aside0.mk ((HS2.out.block b9 (by have := E.out; omega)).trans F9.out)
   have G10 := Aside0.mk ((HS2.out.block b10 (by have := E.out; omega)).trans F10.out)
   clear F3 F4 F5 F6 F9 F10 F11 HBW
   go_wp2_with fail
   obtain ⟨ad3, e3, hx0, hx1⟩ := at_T68 (Kd.C_below HR0_3.out HBx.out) b b1 b2
   cases e3
   clear hx0
   have k9 := (blk_cell G9.out 0).trans rfl
   have k33 := (blk_cell G3.out 3).trans rfl
   have k4 := (blk_cell G4.out 0).trans rfl
   have k5 := (blk_cell G5.out 0).trans rfl
   have kne : (kk == 0) = false := by
    have h := H.out
    apply beq_eq_false_iff_ne.mpr
    intro e
    rw [e] at h
    simp at h
   have klt : decide ((rd_T68 l0_3 b).f1 < a2 + a1) = false := decide_eq_false (by omega)
   go_region_held3 (fun w' => w'.cell? ⟨b9, 0, none⟩ = some (.int .i8 kk) ∧ w'.cell? ⟨b3, 3, none⟩ = some (.slice (some ad3) l0_3.length c0_3) ∧ w'.cell? ⟨b5, 0, none⟩ = some (.int .i64 a2) ∧ w'.cell? ⟨b4, 0, none⟩ = some (.int .i64 a1) ∧ w'.cell? ⟨(ad3.add (b.toNat * 2)).block, (ad3.add (b.toNat * 2)).off + 1, none⟩ = some (.int .i64 (rd_T68 l0_3 b).f1)) (first | exact ⟨k9, k33, k5, k4, hx1⟩ | exact ⟨K9.out, K33.out, K5.out, K4.out, KX.out⟩)
    (first | (go_at_call 35; refine (block_Of.calls k (some ad3) c0_3 l0_3 a2 b _ (Kd.C_drew (Kd.C_below HR0_3.out HBx.out)) HC0_3.out H3.out).mono ?_; rintro e w7 ⟨rfl, hb⟩; have HB7 := Aside0.mk hb; have K9 := Aside0.mk ((hb.cell (World.block_lt_of_cell? _ _ k9)).trans k9); have K33 := Aside0.mk ((hb.cell (World.block_lt_of_cell? _ _ k33)).trans k33); have K5 := Aside0.mk ((hb.cell (World.block_lt_of_cell? _ _ k5)).trans k5); have K4 := Aside0.mk ((hb.cell (World.block_lt_of_cell? _ _ k4)).trans k4); have KX := Aside0.mk ((hb.cell (World.block_lt_of_cell? _ _ hx1)).trans hx1); clear hb))
   have J3 := Aside0.mk (blk_below (blk_drew G3.out) HB7.out)
   have J4 := Aside0.mk (blk_below (blk_drew G4.out) HB7.out)
   have J5 := Aside0.mk (blk_below (blk_drew G5.out) HB7.out)
   have J6 := Aside0.mk (blk_below (blk_drew G6.out) HB7.out)
   have J9 := Aside0.mk (blk_below (blk_drew G9.out) HB7.out)
   have J10 := Aside0.mk (blk_below (blk_drew G10.out) HB7.out)
   have HBz := Aside0.mk (below_then (below_drew HBx.out) HBx.out.size HB7.out)
   clear k9 k33 k4 k5 hx1 K9 K33 K4 K5 KX G3 G4 G5 G6 G9 G10
   go_wp2_with fail
   go_step3
   go_wp2_with fail
   by_cases hk1 : kk = 1
   ·subst hk1
    have h := H.out
    simp only [if_true, Option.some.injEq, Prod.mk.injEq] at h
    obtain ⟨rfl, rfl, rfl, rfl⟩ := h
    refine wp_loop_rounds 4 ?_
    rw [rounds_succ]
    go_wp2_with fail
    obtain ⟨W8, hW8⟩ : ∃ W, W = w7.alloc (Obj.cells #[Value.func (Fn.func 31) #[] #[.pointer (some ⟨b9, 0, none⟩)], Value.func (Fn.func 32) #[] #[.pointer (some ⟨b9, 0, none⟩)], Value.func (Fn.func 33) #[] #[.pointer (some ⟨b3, 0, none⟩), .pointer (some ⟨b5, 0, none⟩), .pointer (some ⟨b4, 0, none⟩)], Value.func (Fn.func 34) #[] #[.pointer (some ⟨b4, 0, none⟩), .pointer (some ⟨b11, 0, none⟩), .pointer (some ⟨b10, 0, none⟩)]] 23) := ⟨_, rfl⟩
    rw [← hW8]
    have M9 : W8.heap[b9]? = some (.cells #[.int .i8 1] 25 (0, 0)) := by rw [hW8]; exact blk_alloc J9.out _
    have M10 : W8.heap[b10]? = some (.cells #[.int .i64 a2, .int .i8 0, .int .i8 0] 34 (0, 0)) := by rw [hW8]; exact blk_alloc J10.out _
    have M6 : W8.heap[b6]? = some (.cells #[.int .i64 0, .int .i8 0, .int .i8 0] 34 (0, 0)) := by rw [hW8]; exact blk_alloc J6.out _
    have MB := Aside0.mk (show Below w.heap.size w W8 from by rw [hW8]; exact below_alloc HBz.out _)
    have h610 : b6 ≠ b10 := by have := E.out; omega
    have p10 := blk_set M10 1 (.int .i8 1)
    have p6 := blk_far M6 (p := ⟨b10, 1, none⟩) h610 (.int .i8 1)
    have m1 := (blk_cell M10 1).trans rfl
    have mf1 := blk_frozen M10 1
    have n0 := (blk_cell p10 0).trans rfl
    have n1 := (blk_cell p10 1).trans rfl
    have n2 := (blk_cell p10 2).trans rfl
    have s0 := (blk_cell p6 0).trans rfl
    have s1 := (blk_cell p6 1).trans rfl
    have s2 := (blk_cell p6 2).trans rfl
    have sf0 := blk_frozen p6 0
    have sf1 := blk_frozen p6 1
    have sf2 := blk_frozen p6 2
    have MM9 := Aside0.mk M9
    have PF := Aside0.mk (blk_set (blk_set (blk_set p6 0 (.int .i64 a2)) 1 (.int .i8 1)) 2 (.int .i8 0))
    have PB := Aside0.mk ((((MB.out.setCell (show w.heap.size ≤ (Addr.mk b10 1 none).block from by have := E.out; simp; omega) (.int .i8 1)).setCell (show w.heap.size ≤ (Addr.mk b6 0 none).block from by have := E.out; simp; omega) (.int .i64 a2)).setCell (show w.heap.size ≤ (Addr.mk b6 1 none).block from by have := E.out; simp; omega) (.int .i8 1)).setCell (show w.heap.size ≤ (Addr.mk b6 2 none).block from by have := E.out; simp; omega) (.int .i8 0))
    clear hW8 M10 M6 M9 p10 p6
    refine (class_look_of.tail 1 b9 _ MM9.out).mono ?_
    rintro e w8 ⟨rfl, rfl⟩
    go_wp2_with fail
    rw [Exit.noGoto_ret]
    try simp only [Exit.inBlock, Exit.then]
    refine bodyPost_ret (results_ct rfl _ _ b6 34 #[.int .i64 a2, .int .i8 1, .int .i8 0] (0, 0) _ rfl PF.out Try.underlying34 rfl rfl) rfl ?_
    exact ⟨rfl, PB.out⟩
   ·have h := H.out
    rw [if_neg hk1] at h
    by_cases hk3 : kk = 3 ∧ Go.bits .and .u16 (rd l0_4 (a2 + a1 - 1)) 32768 = 0
    case neg => rw [if_neg hk3] at h; cases h
    rw [if_pos hk3] at h
    simp only [Option.some.injEq, Prod.mk.injEq] at h
    obtain ⟨rfl, rfl, rfl, rfl⟩ := h
    obtain ⟨rfl, hd⟩ := hk3
    refine wp_loop_rounds 4 ?_
    rw [rounds_succ]
    go_wp2_with fail
    obtain ⟨W8, hW8⟩ : ∃ W, W = w7.alloc (Obj.cells #[Value.func (Fn.func 31) #[] #[.pointer (some ⟨b9, 0, none⟩)], Value.func (Fn.func 32) #[] #[.pointer (some ⟨b9, 0, none⟩)], Value.func (Fn.func 33) #[] #[.pointer (some ⟨b3, 0, none⟩), .pointer (some ⟨b5, 0, none⟩), .pointer (some ⟨b4, 0, none⟩)], Value.func (Fn.func 34) #[] #[.pointer (some ⟨b4, 0, none⟩), .pointer (some ⟨b11, 0, none⟩), .pointer (some ⟨b10, 0, none⟩)]] 23) := ⟨_, rfl⟩
    rw [← hW8]
    have M9 : W8.heap[b9]? = some (.cells #[.int .i8 3] 25 (0, 0)) := by rw [hW8]; exact blk_alloc J9.out _
    have M10 : W8.heap[b10]? = some (.cells #[.int .i64 a2, .int .i8 0, .int .i8 0] 34 (0, 0)) := by rw [hW8]; exact blk_alloc J10.out _
    have M6 : W8.heap[b6]? = some (.cells #[.int .i64 0, .int .i8 0, .int .i8 0] 34 (0, 0)) := by rw [hW8]; exact blk_alloc J6.out _
    have MB := Aside0.mk (show Below w.heap.size w W8 from by rw [hW8]; exact below_alloc HBz.out _)
    have h610 : b6 ≠ b10 := by have := E.out; omega
    have p10 := blk_set M10 1 (.int .i8 3)
    have p6 := blk_far M6 (p := ⟨b10, 1, none⟩) h610 (.int .i8 3)
    have m1 := (blk_cell M10 1).trans rfl
    have mf1 := blk_frozen M10 1
    have n0 := (blk_cell p10 0).trans rfl
    have n1 := (blk_cell p10 1).trans rfl
    have n2 := (blk_cell p10 2).trans rfl
    have s0 := (blk_cell p6 0).trans rfl
    have s1 := (blk_cell p6 1).trans rfl
    have s2 := (blk_cell p6 2).trans rfl
    have sf0 := blk_frozen p6 0
    have sf1 := blk_frozen p6 1
    have sf2 := blk_frozen p6 2
    have MM9 := Aside0.mk M9
    have MM3 := Aside0.mk (blk_alloc J3.out (Obj.cells #[Value.func (Fn.func 31) #[] #[.pointer (some ⟨b9, 0, none⟩)], Value.func (Fn.func 32) #[] #[.pointer (some ⟨b9, 0, none⟩)], Value.func (Fn.func 33) #[] #[.pointer (some ⟨b3, 0, none⟩), .pointer (some ⟨b5, 0, none⟩), .pointer (some ⟨b4, 0, none⟩)], Value.func (Fn.func 34) #[] #[.pointer (some ⟨b4, 0, none⟩), .pointer (some ⟨b11, 0, none⟩), .pointer (some ⟨b10, 0, none⟩)]] 23))
    rw [← hW8] at MM3
    have MM4 := Aside0.mk (blk_alloc J4.out (Obj.cells #[Value.func (Fn.func 31) #[] #[.pointer (some ⟨b9, 0, none⟩)], Value.func (Fn.func 32) #[] #[.pointer (some ⟨b9, 0, none⟩)], Value.func (Fn.func 33) #[] #[.pointer (some ⟨b3, 0, none⟩), .pointer (some ⟨b5, 0, none⟩), .pointer (some ⟨b4, 0, none⟩)], Value.func (Fn.func 34) #[] #[.pointer (some ⟨b4, 0, none⟩), .pointer (some ⟨b11, 0, none⟩), .pointer (some ⟨b10, 0, none⟩)]] 23))
    rw [← hW8] at MM4
    have MM5 := Aside0.mk (blk_alloc J5.out (Obj.cells #[Value.func (Fn.func 31) #[] #[.pointer (some ⟨b9, 0, none⟩)], Value.func (Fn.func 32) #[] #[.pointer (some ⟨b9, 0, none⟩)], Value.func (Fn.func 33) #[] #[.pointer (some ⟨b3, 0, none⟩), .pointer (some ⟨b5, 0, none⟩), .pointer (some ⟨b4, 0, none⟩)], Value.func (Fn.func 34) #[] #[.pointer (some ⟨b4, 0, none⟩), .pointer (some ⟨b11, 0, none⟩), .pointer (some ⟨b10, 0, none⟩)]] 23))
    rw [← hW8] at MM5
    obtain ⟨ad', e4, hcx⟩ := Kd.at_int (Kd.C_below HR0_4.out MB.out) (a2 + a1 - 1) (by omega) (by have := g5.out; omega)
    obtain rfl : ad = ad' := by injection e4
    rw [show (a2 + a1 - 1).toNat = (a2 + a1).toNat - 1 by omega] at hcx
    have FN := heap_alloc_new w7 (Obj.cells #[Value.func (Fn.func 31) #[] #[.pointer (some ⟨b9, 0, none⟩)], Value.func (Fn.func 32) #[] #[.pointer (some ⟨b9, 0, none⟩)], Value.func (Fn.func 33) #[] #[.pointer (some ⟨b3, 0, none⟩), .pointer (some ⟨b5, 0, none⟩), .pointer (some ⟨b4, 0, none⟩)], Value.func (Fn.func 34) #[] #[.pointer (some ⟨b4, 0, none⟩), .pointer (some ⟨b11, 0, none⟩), .pointer (some ⟨b10, 0, none⟩)]] 23)
    rw [← hW8] at FN
    have fn0 := (blk_cell FN 0).trans rfl
    have fn1 := (blk_cell FN 1).trans rfl
    have fn2 := (blk_cell FN 2).trans rfl
    clear FN
    have MMX := Aside0.mk hcx
    clear hcx
    have PF := Aside0.mk (blk_set (blk_set (blk_set p6 0 (.int .i64 a2)) 1 (.int .i8 3)) 2 (.int .i8 0))
    have PB := Aside0.mk ((((MB.out.setCell (show w.heap.size ≤ (Addr.mk b10 1 none).block from by have := E.out; simp; omega) (.int .i8 3)).setCell (show w.heap.size ≤ (Addr.mk b6 0 none).block from by have := E.out; simp; omega) (.int .i64 a2)).setCell (show w.heap.size ≤ (Addr.mk b6 1 none).block from by have := E.out; simp; omega) (.int .i8 3)).setCell (show w.heap.size ≤ (Addr.mk b6 2 none).block from by have := E.out; simp; omega) (.int .i8 0))
    clear hW8 M10 M6 M9 p10 p6
    refine (class_look_of.tail 3 b9 _ MM9.out).mono ?_
    rintro e w8 ⟨rfl, rfl⟩
    have m9 := (blk_cell MM9.out 0).trans rfl
    go_wp2_with fail
    rw [rounds_succ]
    go_wp2_with fail
    refine (class_look_of.thunk 3 b9 _ MM9.out).mono ?_
    rintro e w9 ⟨rfl, rfl⟩
    go_wp2_with fail
    rw [rounds_succ]
    go_wp2_with fail
    refine (class_look_of.dead a1 a2 (rd l0_4 (a2 + a1 - 1)) b3 b5 b4 _ _ _ _ ad l0_4.length c0_4 _ MM3.out MM5.out MM4.out MMX.out q1 q2 hs hs2).mono ?_
    rintro e w10 ⟨rfl, rfl⟩
    have hd1 : (Go.bits .and .u16 (rd l0_4 (a2 + a1 - 1)) 32768 == 0) = true := by rw [hd]; rfl
    go_wp2_with fail
    rw [Exit.noGoto_ret]
    try simp only [Exit.inBlock, Exit.then]
    refine bodyPost_ret (results_ct rfl _ _ b6 34 #[.int .i64 a2, .int .i8 3, .int .i8 0] (0, 0) _ rfl PF.out Try.underlying34 rfl rfl) rfl ?_
    exact ⟨rfl, PB.out⟩

end Go.Proofs.Ytidcijicehgfkaa.PK
