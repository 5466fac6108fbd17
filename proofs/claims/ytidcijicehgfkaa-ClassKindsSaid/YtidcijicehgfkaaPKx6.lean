-- Printed by this session's own program (wip/tools/hybrid.sh) over its own contracts
import Derived.Test.YtidcijicehgfkaaPKx0
import Derived.Test.YtidcijicehgfkaaPKx2
import Derived.Test.YtidcijicehgfkaaPKx3
import Derived.Test.YtidcijicehgfkaaPKx5
namespace Go.Proofs.Ytidcijicehgfkaa.PK
open Go.RowKit Go.Proofs.YtidcijicehgfkaaW.PrintWords Go.Proofs.YtidcijicehgfkaaW.PrintLast Go.Proofs.YtidcijicehgfkaaW.PrintMore
attribute [local go_sem] max2_int min2_int max_two min_two max_three min_three max_four min_four   -- for this text's walks alone
set_option linter.unusedVariables false
set_option linter.unusedSimpArgs false

/-! ### class_Spot: function 9 -/
/- class.Spot, where the image may be and the places are in it: elsewhere nothing is said (the printed one hands its image on, and the caller could not use it again). -/
set_option maxHeartbeats 16000000 in
set_option maxRecDepth 100000 in
theorem class_see.callsC (k : Nat) (A0_0 : Option Addr) (c0_0 : Nat) (l0_0 : List Int) (a0_1 : Int) (A0_2 : Option Addr) (c0_2 : Nat) (l0_2 : List Int) (bs : List S68) (e1 : Int) (bh : List Int) (e2 : Int) (w : World) (hr0_0 : Kd.C (Kd.int .u32) w A0_0 l0_0.length l0_0) (hc0_0 : l0_0.length ≤ c0_0) (hr0_2 : Kd.C (Kd.int .i64) w A0_2 l0_2.length l0_2) (hc0_2 : l0_2.length ≤ c0_2)
  (h1 : block_Blocks.f k l0_0 a0_1 l0_2 = some (bs, e1)) (h2 : live_Behind.f k l0_0 a0_1 l0_2 = some (bh, e2)) :
  Calls Try.prog 17 #[.agg #[.slice A0_0 l0_0.length c0_0, .int .i64 a0_1, .slice A0_2 l0_2.length c0_2]] w fun e w' => ∃ A3 c3 A4 c4, e = .returned (.agg #[.slice A0_0 l0_0.length c0_0, .int .i64 a0_1, .slice A0_2 l0_2.length c0_2, .slice A3 bs.length c3, .slice A4 bh.length c4]) ∧
   bs.length ≤ c3 ∧ Kd.C k68 w' A3 bs.length bs ∧ bh.length ≤ c4 ∧ Kd.C (Kd.int .u16) w' A4 bh.length bh ∧ Below w.heap.size w w' := by
 have HR0_0 := Aside0.mk hr0_0
 have HC0_0 := Aside0.mk hc0_0
 have HR0_2 := Aside0.mk hr0_2
 have HC0_2 := Aside0.mk hc0_2
 have H1 := Aside0.mk h1
 have H2 := Aside0.mk h2
 clear hr0_0 hc0_0 hr0_2 hc0_2 h1 h2
 go_enter Try.func17, Try.ntmps17
 go_wp2_with fail
 obtain ⟨o1, ho1⟩ : ∃ o, o = Obj.cells #[.slice A0_0 l0_0.length c0_0, .int .i64 a0_1, .slice A0_2 l0_2.length c0_2] 32 := ⟨_, rfl⟩
 obtain ⟨o2, ho2⟩ : ∃ o, o = Obj.cells #[.slice none 0 0, .int .i64 0, .slice none 0 0, .slice none 0 0, .slice none 0 0] 47 := ⟨_, rfl⟩
 rw [← ho1, ← ho2]
 have HBA := Aside0.mk (below_alloc (below_alloc (Below.refl w.heap.size w) o1) o2)
 refine (block_Blocks.calls k A0_0 c0_0 l0_0 a0_1 A0_2 c0_2 l0_2 bs e1 _ (Kd.C_alloc (Kd.C_alloc HR0_0.out _) _) HC0_0.out (Kd.C_alloc (Kd.C_alloc HR0_2.out _) _) HC0_2.out H1.out).mono ?_
 rintro e w1 ⟨v1, rfl, hv1, hb⟩
 obtain ⟨A3, c3, rfl, hc3, hr3⟩ := Kd.R_reads hv1
 have HC3 := Aside0.mk hc3
 have HR3 := Aside0.mk hv1
 have p1 := Aside0.mk (blk_below (blk_alloc (new_at o1 (n := w.heap.size) rfl) o2) hb)
 have p2 := Aside0.mk (blk_below (new_at o2 (n := w.heap.size + 1) (by simp)) hb)
 have HB := Aside0.mk (below_then HBA.out HBA.out.size hb)
 have hsz : w.heap.size + 2 ≤ w1.heap.size := by have := hb.size; simp at this; omega
 have HSZ := Aside0.mk hsz
 rw [ho1] at p1
 clear hv1 hc3 hr3 hb hsz HBA ho1
 generalize e2' : w.heap.size + 1 = b2 at p2 ⊢
 have E2 := Aside0.mk e2'
 generalize e1' : w.heap.size = b1 at p1 ⊢
 have E1 := Aside0.mk e1'
 clear e1' e2'
 have p10 := (blk_cell p1.out 0).trans rfl
 have p11 := (blk_cell p1.out 1).trans rfl
 have p12 := (blk_cell p1.out 2).trans rfl
 go_wp2_with fail
 refine (live_Behind.calls k A0_0 c0_0 l0_0 a0_1 A0_2 c0_2 l0_2 bh e2 _ (Kd.C_below HR0_0.out HB.out) HC0_0.out (Kd.C_below HR0_2.out HB.out) HC0_2.out H2.out).mono ?_
 rintro e w2 ⟨v2, rfl, hv2, hb⟩
 obtain ⟨A4, c4, rfl, hc4, hr4⟩ := Kd.R_reads hv2
 have HC4 := Aside0.mk hc4
 have HR4 := Aside0.mk hv2
 have HR3' := Aside0.mk (Kd.R_below HR3.out hb)
 have q1 := Aside0.mk (blk_below p1.out hb)
 have q2 := Aside0.mk (blk_below p2.out hb)
 rw [ho2] at q2
 have HB2 := Aside0.mk (below_then HB.out HB.out.size hb)
 clear hv2 hc4 hr4 hb HR3 p1 p2 p10 p11 p12 HB ho2
 have q10 := (blk_cell q1.out 0).trans rfl
 have q11 := (blk_cell q1.out 1).trans rfl
 have q12 := (blk_cell q1.out 2).trans rfl
 have s0 := (blk_cell q2.out 0).trans rfl
 have s1 := (blk_cell q2.out 1).trans rfl
 have s2 := (blk_cell q2.out 2).trans rfl
 have s3 := (blk_cell q2.out 3).trans rfl
 have s4 := (blk_cell q2.out 4).trans rfl
 have f0 := blk_frozen q2.out 0
 have f1 := blk_frozen q2.out 1
 have f2 := blk_frozen q2.out 2
 have f3 := blk_frozen q2.out 3
 have f4 := blk_frozen q2.out 4
 have PF := Aside0.mk (blk_set (blk_set (blk_set (blk_set (blk_set q2.out 0 (.slice A0_0 l0_0.length c0_0)) 1 (.int .i64 a0_1)) 2 (.slice A0_2 l0_2.length c0_2)) 3 (.slice A3 bs.length c3)) 4 (.slice A4 bh.length c4))
 go_wp2_with fail
 refine bodyPost_ret (results_cell_row rfl _ _ b2 47 #[.slice A0_0 l0_0.length c0_0, .int .i64 a0_1, .slice A0_2 l0_2.length c0_2, .slice A3 bs.length c3, .slice A4 bh.length c4] (0, 0) _ rfl PF.out Try.underlying47 rfl rfl) rfl ?_
 have T3 := Kd.R_types HR3'.out q2.out (by decide)
 have T4 := Kd.R_types HR4.out q2.out (by decide)
 have U3 := Kd.R_far (p := ⟨b2, 4, none⟩) (Kd.R_far (p := ⟨b2, 3, none⟩) (Kd.R_far (p := ⟨b2, 2, none⟩) (Kd.R_far (p := ⟨b2, 1, none⟩) (Kd.R_far (p := ⟨b2, 0, none⟩) T3 (fun _ hk => hk.2) (.slice A0_0 l0_0.length c0_0)) (fun _ hk => hk.2) (.int .i64 a0_1)) (fun _ hk => hk.2) (.slice A0_2 l0_2.length c0_2)) (fun _ hk => hk.2) (.slice A3 bs.length c3)) (fun _ hk => hk.2) (.slice A4 bh.length c4)
 have U4 := Kd.R_far (p := ⟨b2, 4, none⟩) (Kd.R_far (p := ⟨b2, 3, none⟩) (Kd.R_far (p := ⟨b2, 2, none⟩) (Kd.R_far (p := ⟨b2, 1, none⟩) (Kd.R_far (p := ⟨b2, 0, none⟩) T4 (fun _ hk => hk.2) (.slice A0_0 l0_0.length c0_0)) (fun _ hk => hk.2) (.int .i64 a0_1)) (fun _ hk => hk.2) (.slice A0_2 l0_2.length c0_2)) (fun _ hk => hk.2) (.slice A3 bs.length c3)) (fun _ hk => hk.2) (.slice A4 bh.length c4)
 have hle : w.heap.size ≤ b2 := by have := E1.out; have := E2.out; omega
 refine ⟨A3, c3, A4, c4, rfl, HC3.out, (Kd.R_reads' U3).2.2, HC4.out, (Kd.R_reads' U4).2.2, ?_⟩
 exact ((((HB2.out.setCell (show w.heap.size ≤ (Addr.mk b2 0 none).block from hle) _).setCell (show w.heap.size ≤ (Addr.mk b2 1 none).block from hle) _).setCell (show w.heap.size ≤ (Addr.mk b2 2 none).block from hle) _).setCell (show w.heap.size ≤ (Addr.mk b2 3 none).block from hle) _).setCell (show w.heap.size ≤ (Addr.mk b2 4 none).block from hle) _
def class_Spot.f (k : Nat) (l0_0 : List Int) (a0_1 : Int) (l0_2 : List Int) (a1 : Int) (a2 : Int) : Option (Int × Int × Int × Bool × Int) :=
 (image_Check.f k l0_0 a0_1 l0_2).bind fun p => if p.1 = 0 then
  (block_Blocks.f k l0_0 a0_1 l0_2).bind fun q => (live_Behind.f k l0_0 a0_1 l0_2).bind fun b =>
   (class_look_fits.f l0_0 a0_1 l0_2 q.1 b.1 a1 a2).bind fun t => if t = true then (class_look_of.f k l0_0 a0_1 l0_2 q.1 b.1 a1 a2).bind fun s => some (s.1, s.2.1, s.2.2.1, s.2.2.2, 0) else none
 else none
theorem class_Spot.mono : ∀ a0 a1 a2 a3 a4 k, LeO (class_Spot.f k a0 a1 a2 a3 a4) (class_Spot.f (k + 1) a0 a1 a2 a3 a4) := by
 intro a0 a1 a2 a3 a4 k
 exact LeO.bind (image_Check.mono _ _ _ _) (fun p => LeO.ite (LeO.bind (block_Blocks.mono _ _ _ _) (fun q => LeO.bind (live_Behind.mono _ _ _ _) (fun b => LeO.bind (LeO.refl _) (fun t => LeO.ite (LeO.bind (class_look_of.mono _ _ _ _ _ _ _ _) (fun s => LeO.refl _)) (LeO.refl _))))) (LeO.refl _))
set_option maxHeartbeats 16000000 in
set_option maxRecDepth 100000 in
theorem class_Spot.calls (k : Nat) (A0_0 : Option Addr) (c0_0 : Nat) (l0_0 : List Int) (a0_1 : Int) (A0_2 : Option Addr) (c0_2 : Nat) (l0_2 : List Int) (a1 : Int) (a2 : Int) (r1 : Int) (r2 : Int) (r3 : Int) (r4 : Bool) (r5 : Int) (w : World) (hr0_0 : Kd.C (Kd.int .u32) w A0_0 l0_0.length l0_0) (hc0_0 : l0_0.length ≤ c0_0) (hr0_2 : Kd.C (Kd.int .i64) w A0_2 l0_2.length l0_2) (hc0_2 : l0_2.length ≤ c0_2)
  (h : class_Spot.f k l0_0 a0_1 l0_2 a1 a2 = some (r1, r2, r3, r4, r5)) :
  Calls Try.prog 9 #[.agg #[.slice A0_0 l0_0.length c0_0, .int .i64 a0_1, .slice A0_2 l0_2.length c0_2], .int .i64 a1, .int .i64 a2] w fun e w' => e = .returned (.tuple #[.agg #[.int .i64 r1, .int .i8 r2, .int .i8 r3], .bool r4, .int .i64 r5]) ∧ Below w.heap.size w w' := by
 obtain ⟨⟨e0, p⟩, h1, h⟩ := Option.bind_eq_some_iff.1 h
 by_cases he : e0 = 0
 case neg => simp only [if_neg he] at h; cases h
 subst he
 simp only [if_true] at h
 obtain ⟨⟨bs, e1⟩, h2, h⟩ := Option.bind_eq_some_iff.1 h
 obtain ⟨⟨bh, e2⟩, h3, h⟩ := Option.bind_eq_some_iff.1 h
 obtain ⟨t, h4, h⟩ := Option.bind_eq_some_iff.1 h
 cases t
 case false => simp at h
 simp only [if_true] at h
 obtain ⟨⟨s1, s2, s3, s4⟩, h5, h⟩ := Option.bind_eq_some_iff.1 h
 simp only [Option.some.injEq, Prod.mk.injEq] at h
 obtain ⟨rfl, rfl, rfl, rfl, rfl⟩ := h
 have HR0_0 := Aside0.mk hr0_0
 have HC0_0 := Aside0.mk hc0_0
 have HR0_2 := Aside0.mk hr0_2
 have HC0_2 := Aside0.mk hc0_2
 have H1 := Aside0.mk h1
 have H2 := Aside0.mk h2
 have H3 := Aside0.mk h3
 have H4 := Aside0.mk h4
 have H5 := Aside0.mk h5
 clear hr0_0 hc0_0 hr0_2 hc0_2 h1 h2 h3 h4 h5
 go_enter Try.func9, Try.ntmps9
 go_wp2_with fail
 obtain ⟨o1, ho1⟩ : ∃ o, o = Obj.cells #[.slice A0_0 l0_0.length c0_0, .int .i64 a0_1, .slice A0_2 l0_2.length c0_2] 32 := ⟨_, rfl⟩
 obtain ⟨o2, ho2⟩ : ∃ o, o = Obj.cells #[.int .i64 0, .int .i8 0, .int .i8 0] 34 := ⟨_, rfl⟩
 rw [← ho1, ← ho2]
 have HBA := Aside0.mk (below_alloc (below_alloc (Below.refl w.heap.size w) o1) o2)
 refine (image_Check.calls k A0_0 c0_0 l0_0 a0_1 A0_2 c0_2 l0_2 0 p _ (Kd.C_alloc (Kd.C_alloc HR0_0.out _) _) HC0_0.out (Kd.C_alloc (Kd.C_alloc HR0_2.out _) _) HC0_2.out H1.out).mono ?_
 rintro e w1 ⟨rfl, hb⟩
 have p1 := Aside0.mk (blk_below (blk_alloc (new_at o1 (n := w.heap.size) rfl) o2) hb)
 have p2 := Aside0.mk (blk_below (new_at o2 (n := w.heap.size + 1) (by simp)) hb)
 have HB := Aside0.mk (below_then HBA.out HBA.out.size hb)
 rw [ho1] at p1
 rw [ho2] at p2
 clear hb HBA ho1 ho2
 generalize e2' : w.heap.size + 1 = b2 at p2 ⊢
 have E2 := Aside0.mk e2'
 generalize e1' : w.heap.size = b1 at p1 ⊢
 have E1 := Aside0.mk e1'
 clear e1' e2'
 have p10 := (blk_cell p1.out 0).trans rfl
 have p11 := (blk_cell p1.out 1).trans rfl
 have p12 := (blk_cell p1.out 2).trans rfl
 go_wp2_with fail
 refine (class_see.callsC k A0_0 c0_0 l0_0 a0_1 A0_2 c0_2 l0_2 bs e1 bh e2 _ (Kd.C_below HR0_0.out HB.out) HC0_0.out (Kd.C_below HR0_2.out HB.out) HC0_2.out H2.out H3.out).mono ?_
 rintro e w2 ⟨A3, c3, A4, c4, rfl, hc3, hr3, hc4, hr4, hb⟩
 have HC3 := Aside0.mk hc3
 have HR3 := Aside0.mk hr3
 have HC4 := Aside0.mk hc4
 have HR4 := Aside0.mk hr4
 have q2 := Aside0.mk (blk_below p2.out hb)
 have HB2 := Aside0.mk (below_then HB.out HB.out.size hb)
 clear hc3 hr3 hc4 hr4 hb p1 p2 p10 p11 p12 HB
 have hsz : b2 < w2.heap.size := blk_lt q2.out
 have HSZ := Aside0.mk hsz
 clear hsz
 go_wp2_with fail
 obtain ⟨o3, ho3⟩ : ∃ o, o = Obj.cells #[.slice A0_0 l0_0.length c0_0, .int .i64 a0_1, .slice A0_2 l0_2.length c0_2, .slice A3 bs.length c3, .slice A4 bh.length c4] 47 := ⟨_, rfl⟩
 rw [← ho3]
 have HBB := Aside0.mk (below_alloc HB2.out o3)
 refine (class_look_fits.calls A0_0 c0_0 l0_0 a0_1 A0_2 c0_2 l0_2 A3 c3 bs A4 c4 bh a1 a2 true _ (Kd.C_below HR0_0.out HBB.out) HC0_0.out (Kd.C_below HR0_2.out HBB.out) HC0_2.out (Kd.C_alloc HR3.out _) HC3.out (Kd.C_alloc HR4.out _) HC4.out H4.out).mono ?_
 rintro e w3 ⟨rfl, hb⟩
 have r2' := Aside0.mk (blk_below (blk_alloc q2.out o3) hb)
 have r3' := Aside0.mk (blk_below (new_at o3 (n := w2.heap.size) rfl) hb)
 have HR3' := Aside0.mk (Kd.C_below (Kd.C_alloc HR3.out o3) hb)
 have HR4' := Aside0.mk (Kd.C_below (Kd.C_alloc HR4.out o3) hb)
 have HB3 := Aside0.mk (below_then HBB.out HBB.out.size hb)
 rw [ho3] at r3'
 clear hb HBB HB2 HR3 HR4 ho3
 generalize e3' : w2.heap.size = b3 at r3' ⊢
 have E3 := Aside0.mk e3'
 clear e3'
 have k0 := (blk_cell r3'.out 0).trans rfl
 have k1 := (blk_cell r3'.out 1).trans rfl
 have k2 := (blk_cell r3'.out 2).trans rfl
 have k3 := (blk_cell r3'.out 3).trans rfl
 have k4 := (blk_cell r3'.out 4).trans rfl
 go_wp2_with fail
 refine (class_look_of.calls k A0_0 c0_0 l0_0 a0_1 A0_2 c0_2 l0_2 A3 c3 bs A4 c4 bh a1 a2 s1 s2 s3 s4 _ (Kd.C_below HR0_0.out HB3.out) HC0_0.out (Kd.C_below HR0_2.out HB3.out) HC0_2.out HR3'.out HC3.out HR4'.out HC4.out H5.out).mono ?_
 rintro e w4 ⟨rfl, hb⟩
 have t2 := Aside0.mk (blk_below r2'.out hb)
 have HB4 := Aside0.mk (below_then HB3.out HB3.out.size hb)
 clear hb k0 k1 k2 k3 k4 r2' r3' HB3
 have n0 := (blk_cell (blk_alloc t2.out (Obj.cells #[.int .i64 s1, .int .i8 s2, .int .i8 s3] 34)) 0).trans rfl
 have n1 := (blk_cell (blk_alloc t2.out (Obj.cells #[.int .i64 s1, .int .i8 s2, .int .i8 s3] 34)) 1).trans rfl
 have n2 := (blk_cell (blk_alloc t2.out (Obj.cells #[.int .i64 s1, .int .i8 s2, .int .i8 s3] 34)) 2).trans rfl
 have m0 := blk_frozen (blk_alloc t2.out (Obj.cells #[.int .i64 s1, .int .i8 s2, .int .i8 s3] 34)) 0
 have m1 := blk_frozen (blk_alloc t2.out (Obj.cells #[.int .i64 s1, .int .i8 s2, .int .i8 s3] 34)) 1
 have m2 := blk_frozen (blk_alloc t2.out (Obj.cells #[.int .i64 s1, .int .i8 s2, .int .i8 s3] 34)) 2
 have hle : b1 ≤ b2 := by have := E2.out; have := E1.out; omega
 have PF := Aside0.mk (blk_set (blk_set (blk_set (blk_alloc t2.out (Obj.cells #[.int .i64 s1, .int .i8 s2, .int .i8 s3] 34)) 0 (.int .i64 s1)) 1 (.int .i8 s2)) 2 (.int .i8 s3))
 have PB := Aside0.mk ((((below_alloc HB4.out (Obj.cells #[.int .i64 s1, .int .i8 s2, .int .i8 s3] 34)).setCell (show w.heap.size ≤ (Addr.mk b2 0 none).block from by rw [E1.out]; exact hle) (.int .i64 s1)).setCell (show w.heap.size ≤ (Addr.mk b2 1 none).block from by rw [E1.out]; exact hle) (.int .i8 s2)).setCell (show w.heap.size ≤ (Addr.mk b2 2 none).block from by rw [E1.out]; exact hle) (.int .i8 s3))
 go_wp2_with fail
 refine bodyPost_ret (results_ctt rfl _ _ b2 34 #[.int .i64 s1, .int .i8 s2, .int .i8 s3] (0, 0) _ rfl PF.out Try.underlying34 rfl rfl) rfl ?_
 exact ⟨rfl, PB.out⟩

/-! ### pleatlaw19_works: function 4 -/
/- pleatlaw19.works, where all that it asks is so (shorter than the printed one). -/
def pleatlaw19_works.text : List Int := [142606341, 1879572480, 2818572288]
def pleatlaw19_works.f (k : Nat) : Option Bool :=
 (class_Spot.f k pleatlaw19_works.text 0 [] 3 0).bind fun s => (class_Spot.f k pleatlaw19_works.text 0 [] 2 0).bind fun t => (class_Kind.f k pleatlaw19_works.text).bind fun c =>
  if s = (0, 1, 0, true, 0) ∧ t = (0, 3, 0, true, 0) ∧ c = 1 then some true else none
theorem pleatlaw19_works.mono : ∀ k, LeO (pleatlaw19_works.f k) (pleatlaw19_works.f (k + 1)) := by
 intro k
 exact LeO.bind (class_Spot.mono _ _ _ _ _ _) (fun s => LeO.bind (class_Spot.mono _ _ _ _ _ _) (fun t => LeO.bind (class_Kind.mono _ _) (fun c => LeO.refl _)))
theorem pleatlaw19_works.row {W : World} {g e : Nat} {x y z : Int} (h : W.heap[g]? = some (.cells #[.int .u32 x, .int .u32 y, .int .u32 z] e (0, 0))) : Kd.C (Kd.int .u32) W (some ⟨g, 0, none⟩) 3 [x, y, z] :=
 (Kd.R_reads' (d := Kd.int .u32) (e := e) (base := 0) (ok := fun _ => True) (n := 3) (c := 3) (xs := [x, y, z]) (Kd.R_of_own (xs := [x, y, z]) ⟨rfl, .inr ⟨g, 3, _, rfl, Nat.zero_le _, h, Nat.le_refl _, by decide, rfl, rfl⟩⟩ (fun _ _ => trivial))).2.2
set_option maxHeartbeats 16000000 in
set_option maxRecDepth 100000 in
theorem pleatlaw19_works.calls (k : Nat) (r : Bool) (w : World) (h : pleatlaw19_works.f k = some r) :
  Calls Try.prog 4 #[] w fun e w' => e = .returned (.bool r) ∧ Below w.heap.size w w' := by
 replace h := Option.bind_eq_some_iff.1 h
 obtain ⟨s, h1, h⟩ := h
 replace h := Option.bind_eq_some_iff.1 h
 obtain ⟨t, h2, h⟩ := h
 replace h := Option.bind_eq_some_iff.1 h
 obtain ⟨c, h3, h⟩ := h
 by_cases hg : s = (0, 1, 0, true, 0) ∧ t = (0, 3, 0, true, 0) ∧ c = 1
 case neg => rw [if_neg hg] at h; cases h
 rw [if_pos hg] at h
 obtain ⟨rfl, rfl, rfl⟩ := hg
 obtain rfl := Option.some.inj h
 have H1 := Aside0.mk h1
 have H2 := Aside0.mk h2
 have H3 := Aside0.mk h3
 clear h1 h2 h3 h
 go_enter Try.func4, Try.ntmps4
 go_wp2_with fail
 obtain ⟨o1, ho1⟩ : ∃ o, o = Obj.cells #[.int .u32 142606341, .int .u32 1879572480, .int .u32 2818572288] 29 := ⟨_, rfl⟩
 obtain ⟨o2, ho2⟩ : ∃ o, o = Obj.cells #[.slice (some ⟨w.heap.size, 0, none⟩) 3 3, .int .i64 0, .slice none 0 0] 32 := ⟨_, rfl⟩
 rw [← ho1, ← ho2]
 have p1 := blk_alloc (new_at o1 (n := w.heap.size) rfl) o2
 have p2 := new_at o2 (n := w.heap.size + 1) (w := w.alloc o1) (by simp)
 have HB0 := Aside0.mk (below_alloc (below_alloc (Below.refl w.heap.size w) o1) o2)
 generalize hW : (w.alloc o1).alloc o2 = W at p1 p2 HB0 ⊢
 rw [ho1] at p1
 rw [ho2] at p2
 clear hW ho1 ho2 o1 o2
 generalize hb1 : w.heap.size = b1 at p1 p2 ⊢
 have HB1 := Aside0.mk hb1
 clear hb1
 generalize hb2 : b1 + 1 = b2 at p2 ⊢
 clear hb2
 have P1 := Aside0.mk p1
 have P2 := Aside0.mk p2
 clear p1 p2
 refine (class_Spot.calls k (some ⟨b1, 0, none⟩) 3 pleatlaw19_works.text 0 none 0 [] 3 0 0 1 0 true 0 _ (pleatlaw19_works.row P1.out) (Nat.le_refl _) (Kd.C_nil _ _) (Nat.le_refl _) H1.out).mono ?_
 rintro e w1 ⟨rfl, hb⟩
 have P1' := Aside0.mk (blk_below P1.out hb)
 have P2' := Aside0.mk (blk_below P2.out hb)
 have HB2 := Aside0.mk (below_then HB0.out HB0.out.size hb)
 clear hb HB0 P1 P2
 have hsz : b2 < w1.heap.size := blk_lt P2'.out
 have HSZ := Aside0.mk hsz
 clear hsz
 have k0 := fun o => (blk_cell (blk_alloc P2'.out o) 0).trans rfl
 have k1 := fun o => (blk_cell (blk_alloc P2'.out o) 1).trans rfl
 have k2 := fun o => (blk_cell (blk_alloc P2'.out o) 2).trans rfl
 go_wp2_with fail
 clear k0 k1 k2
 obtain ⟨o3, ho3⟩ : ∃ o, o = Obj.cells #[.int .i64 0, .int .i8 1, .int .i8 0] 34 := ⟨_, rfl⟩
 rw [← ho3]
 have S1 := new_at (w := w1) o3 (n := w1.heap.size) rfl
 have P1 := Aside0.mk (blk_alloc P1'.out o3)
 have P2 := Aside0.mk (blk_alloc P2'.out o3)
 have HB3 := Aside0.mk (below_alloc HB2.out o3)
 generalize hW : w1.alloc o3 = W2 at S1 P1 P2 HB3 ⊢
 rw [ho3] at S1
 clear hW ho3 o3 P1' P2' HB2
 generalize hb3 : w1.heap.size = b3 at S1 HSZ ⊢
 clear hb3
 have S1' := Aside0.mk S1
 clear S1
 refine (class_Spot.calls k (some ⟨b1, 0, none⟩) 3 pleatlaw19_works.text 0 none 0 [] 2 0 0 3 0 true 0 _ (pleatlaw19_works.row P1.out) (Nat.le_refl _) (Kd.C_nil _ _) (Nat.le_refl _) H2.out).mono ?_
 rintro e w2 ⟨rfl, hb⟩
 have P1' := Aside0.mk (blk_below P1.out hb)
 have P2' := Aside0.mk (blk_below P2.out hb)
 have S1 := Aside0.mk (blk_below S1'.out hb)
 have HB4 := Aside0.mk (below_then HB3.out HB3.out.size hb)
 clear hb HB3 P1 P2 S1'
 have hsz : b3 < w2.heap.size := blk_lt S1.out
 have HSZ2 := Aside0.mk hsz
 clear hsz
 have k0 := fun o => (blk_cell (blk_alloc S1.out o) 0).trans rfl
 have k1 := fun o => (blk_cell (blk_alloc S1.out o) 1).trans rfl
 have k2 := fun o => (blk_cell (blk_alloc S1.out o) 2).trans rfl
 have j0 := fun o => (blk_cell (blk_alloc P2'.out o) 0).trans rfl
 go_wp2_with fail
 refine (class_Kind.calls k (some ⟨b1, 0, none⟩) 3 pleatlaw19_works.text 1 _ (pleatlaw19_works.row (blk_alloc P1'.out _)) (Nat.le_refl _) H3.out).mono ?_
 rintro e w3 ⟨rfl, hb⟩
 have HB5 := Aside0.mk (below_then (below_alloc HB4.out _) (below_alloc HB4.out _).size hb)
 clear hb k0 k1 k2 j0
 go_wp2_with fail
 go_ret
 rw [HB1.out] at HB5
 exact ⟨rfl, by have := HB5.out; rwa [HB1.out]⟩

/-! ### pleatref00_CopyWords: function 5 -/
def pleatref00_CopyWords.f (l0 : List Int) : Option (List Int) := if ([] : List Int).length + l0.length < 35184372088832 then (some (([] : List Int) ++ l0)) else (none)
set_option maxHeartbeats 8000000 in
set_option maxRecDepth 100000 in
theorem pleatref00_CopyWords.calls (A0 : Option Addr) (c0 : Nat) (l0 : List Int) (r : List Int) (w : World) (hr0 : Kd.C (Kd.int .u32) w A0 l0.length l0) (hc0 : l0.length ≤ c0) (h : pleatref00_CopyWords.f l0 = some r) :
  Calls Try.prog 5 #[.slice A0 l0.length c0] w fun e w' => ∃ v0_ : Value, e = .returned (v0_) ∧ Kd.R (Kd.int .u32) 29 w' w.heap.size (fun _ => True) v0_ r ∧ Below w.heap.size w w' := by
 have HR0 := Aside0.mk hr0
 have HC0 := Aside0.mk hc0
 clear hr0 hc0
 have HB := Aside0.mk (Below.refl w.heap.size w)
 have H : (if ([] : List Int).length + l0.length < 35184372088832 then (some (([] : List Int) ++ l0)) else (none)) = some r := h
 clear h
 by_cases c2 : ([] : List Int).length + l0.length < 35184372088832
 ·rw [if_pos c2] at H
  have LMc2 := Aside0.mk c2
  clear c2
  obtain ⟨y210, hy210⟩ : ∃ y_ : List Int, y_ = (([] : List Int) ++ l0) := ⟨_, rfl⟩
  replace H : (some y210) = some r := by first | (rw [hy210]; with_reducible exact H) | (have H2_ := (Option.bind_some _ _).symm.trans H; rw [hy210]; with_reducible exact H2_) | (have H2_ := (Option.bind_some _ _).symm.trans H; with_reducible exact H2_) | with_reducible exact H | (rw [hy210]; exact H) | exact H
  have Ny210 := Aside0.mk hy210
  clear hy210
  obtain rfl := Option.some.inj H
  go_enter Try.func5, Try.ntmps5
  go_wp2_with (first | ((with_reducible refine gate_builtin (b := .append) (xs := #[.tmp 4, .tmp 5]) rfl ?_); at_builtin; refine Kd.R_append_rows (Kd.int .u32) (w0 := w) w.heap.size rfl (.tmp 4) (.tmp 5) 22 29 (.int .u32 0) 4 rfl Try.underlying22 info29 rfl (by decide) (by omega) (.slice none 0 0) ([] : List Int) l0 _ _ _ (fun _ => True) (fun _ => False) rfl rfl ?aO ?aR (fun _ _ h => h) (fun _ h => h.elim) ?aF ?aB ?aS ?aL ?_; (case aR => repeat (first | exact HR0.out | (with_reducible refine Kd.C_alloc ?_ _) | (with_reducible refine Kd.C_drewN ?_ _) | (with_reducible refine Kd.C_drew ?_))); (case aB => exact (by repeat (first | (with_reducible first | exact HB.out | apply below_alloc | apply pw_below_drewN | apply below_drew1) | exact HB.out))); (case aF => exact (fun _ _ => trivial)); (case aO => exact ((Kd.R_nil _ _ _ _ (fun _ => True)))); (case aS => exact (below_size (by repeat (first | (with_reducible first | exact HB.out | apply below_alloc | apply pw_below_drewN | apply below_drew1) | exact HB.out)))); (case aL => have := LMc2.out; omega); intro v211 w3 ho hb hg hat; rw [← Ny210.out] at ho; have n0_ := Aside0.mk (hb); have n1_ := Aside0.mk (ho); clear HB; have HB := n0_; have HO212 := n1_; clear n0_ n1_; clear ho hb hg hat))
  go_ret
  exact ⟨_, by first | rfl | (simp [errW_none, errW_some] <;> rfl) | (simp [*, errW_none, errW_some] <;> rfl), by (with_reducible repeat (first | apply Kd.R_alloc | apply Kd.R_drewN | apply Kd.R_drew)); exact HO212.out, by repeat (first | (with_reducible first | exact HB.out | apply below_alloc | apply pw_below_drewN | apply below_drew1) | exact HB.out)⟩
 ·rw [if_neg c2] at H
  exact absurd H (by simp)

/-! ### pleatref02_Has: function 24 -/
mutual
def pleatref02_Has.j0 : Nat → Int → Bool → Option (Bool × Bool × Bool × Bool × Bool)
 | 0, _, _ => none
 | k + 1, x3, x10 => if x10 = true then (some (true, true, true, false, false)) else (if x3 = 11 then (some (true, true, false, true, false)) else (if x3 = 12 then (some (false, true, true, true, false)) else (if x3 = 13 then (some (true, false, false, false, false)) else (if x3 = 14 then (some (false, true, false, true, false)) else (if x3 = 15 then (pleatref02_Has.j1 k x3 (x3 == 15)) else (pleatref02_Has.j1 k x3 (x3 == 17)))))))
def pleatref02_Has.j1 : Nat → Int → Bool → Option (Bool × Bool × Bool × Bool × Bool)
 | 0, _, _ => none
 | k + 1, x3, x32 => if x32 = true then (some (false, false, false, true, true)) else (if x3 = 16 then (some (false, true, false, true, true)) else (if x3 = 18 then (pleatref02_Has.j2 k x3 (x3 == 18)) else (pleatref02_Has.j2 k x3 (x3 == 19))))
def pleatref02_Has.j2 : Nat → Int → Bool → Option (Bool × Bool × Bool × Bool × Bool)
 | 0, _, _ => none
 | k + 1, x3, x39 => if x39 = true then (some (false, true, false, false, false)) else (if x3 = 20 then (some (true, false, false, true, true)) else (some (false, false, false, false, false)))
end
def pleatref02_Has.f (k : Nat) (a0 : Int) : Option (Bool × Bool × Bool × Bool × Bool) := if a0 = 1 then (some (true, false, false, true, false)) else (if a0 = 2 then (some (true, true, false, false, false)) else (if a0 = 3 then (pleatref02_Has.j0 k a0 (a0 == 3)) else (if a0 = 4 then (pleatref02_Has.j0 k a0 (a0 == 4)) else (if a0 = 5 then (pleatref02_Has.j0 k a0 (a0 == 5)) else (if a0 = 6 then (pleatref02_Has.j0 k a0 (a0 == 6)) else (if a0 = 7 then (pleatref02_Has.j0 k a0 (a0 == 7)) else (if a0 = 8 then (pleatref02_Has.j0 k a0 (a0 == 8)) else (if a0 = 9 then (pleatref02_Has.j0 k a0 (a0 == 9)) else (pleatref02_Has.j0 k a0 (a0 == 10))))))))))
theorem pleatref02_Has.mono_l : ∀ k, (∀ y0 y1, LeO (pleatref02_Has.j0 k y0 y1) (pleatref02_Has.j0 (k + 1) y0 y1)) ∧ (∀ y0 y1, LeO (pleatref02_Has.j1 k y0 y1) (pleatref02_Has.j1 (k + 1) y0 y1)) ∧ (∀ y0 y1, LeO (pleatref02_Has.j2 k y0 y1) (pleatref02_Has.j2 (k + 1) y0 y1))
 | 0 => ⟨fun _ _ r h => by simp [pleatref02_Has.j0] at h, fun _ _ r h => by simp [pleatref02_Has.j1] at h, fun _ _ r h => by simp [pleatref02_Has.j2] at h⟩
 | k + 1 => by
  obtain ⟨ih0, ih1, ih2⟩ := pleatref02_Has.mono_l k
  refine ⟨?_, ?_, ?_⟩
  ·intro y0 y1
   unfold pleatref02_Has.j0
   repeat' first
   | (with_reducible exact ih0 _ _)
   | (with_reducible exact ih1 _ _)
   | (with_reducible exact ih2 _ _)
   | (with_reducible exact LeO.refl _)
   | (with_reducible exact LeO.none _)
   | (with_reducible refine LeO.ite ?_ ?_)
   | (with_reducible refine LeO.bind ?_ (fun _ => ?_))
   | exact ih0 _ _
   | exact ih1 _ _
   | exact ih2 _ _
   | exact LeO.none _
   | refine LeO.ite ?_ ?_
   | refine LeO.bind ?_ (fun _ => ?_)
  ·intro y0 y1
   unfold pleatref02_Has.j1
   repeat' first
   | (with_reducible exact ih0 _ _)
   | (with_reducible exact ih1 _ _)
   | (with_reducible exact ih2 _ _)
   | (with_reducible exact LeO.refl _)
   | (with_reducible exact LeO.none _)
   | (with_reducible refine LeO.ite ?_ ?_)
   | (with_reducible refine LeO.bind ?_ (fun _ => ?_))
   | exact ih0 _ _
   | exact ih1 _ _
   | exact ih2 _ _
   | exact LeO.none _
   | refine LeO.ite ?_ ?_
   | refine LeO.bind ?_ (fun _ => ?_)
  ·intro y0 y1
   unfold pleatref02_Has.j2
   repeat' first
   | (with_reducible exact ih0 _ _)
   | (with_reducible exact ih1 _ _)
   | (with_reducible exact ih2 _ _)
   | (with_reducible exact LeO.refl _)
   | (with_reducible exact LeO.none _)
   | (with_reducible refine LeO.ite ?_ ?_)
   | (with_reducible refine LeO.bind ?_ (fun _ => ?_))
   | exact ih0 _ _
   | exact ih1 _ _
   | exact ih2 _ _
   | exact LeO.none _
   | refine LeO.ite ?_ ?_
   | refine LeO.bind ?_ (fun _ => ?_)
theorem pleatref02_Has.mono : ∀ a0 k, LeO (pleatref02_Has.f k a0) (pleatref02_Has.f (k + 1) a0) := by
 intro a0 k
 obtain ⟨ih0, ih1, ih2⟩ := pleatref02_Has.mono_l k
 unfold pleatref02_Has.f
 repeat' first
   | (with_reducible exact ih0 _ _)
   | (with_reducible exact ih1 _ _)
   | (with_reducible exact ih2 _ _)
   | (with_reducible exact LeO.refl _)
   | (with_reducible exact LeO.none _)
   | (with_reducible refine LeO.ite ?_ ?_)
   | (with_reducible refine LeO.bind ?_ (fun _ => ?_))
   | exact ih0 _ _
   | exact ih1 _ _
   | exact ih2 _ _
   | exact LeO.none _
   | refine LeO.ite ?_ ?_
   | refine LeO.bind ?_ (fun _ => ?_)
set_option maxHeartbeats 8000000 in
set_option maxRecDepth 100000 in
theorem pleatref02_Has.calls (k : Nat) (a0 : Int) (r1 : Bool) (r2 : Bool) (r3 : Bool) (r4 : Bool) (r5 : Bool) (w : World) (h : pleatref02_Has.f k a0 = some (r1, r2, r3, r4, r5)) :
  Calls Try.prog 24 #[.int .i8 a0] w fun e w' => e = .returned (.agg #[.bool r1, .bool r2, .bool r3, .bool r4, .bool r5]) ∧ Below w.heap.size w w' := by
 have hu57 := Try.underlying57
 have HB := Aside0.mk (Below.refl w.heap.size w)
 have H : (if a0 = 1 then (some (true, false, false, true, false)) else (if a0 = 2 then (some (true, true, false, false, false)) else (if a0 = 3 then (pleatref02_Has.j0 k a0 (a0 == 3)) else (if a0 = 4 then (pleatref02_Has.j0 k a0 (a0 == 4)) else (if a0 = 5 then (pleatref02_Has.j0 k a0 (a0 == 5)) else (if a0 = 6 then (pleatref02_Has.j0 k a0 (a0 == 6)) else (if a0 = 7 then (pleatref02_Has.j0 k a0 (a0 == 7)) else (if a0 = 8 then (pleatref02_Has.j0 k a0 (a0 == 8)) else (if a0 = 9 then (pleatref02_Has.j0 k a0 (a0 == 9)) else (pleatref02_Has.j0 k a0 (a0 == 10))))))))))) = some (r1, r2, r3, r4, r5) := h
 clear h
 by_cases c2 : a0 = 1
 ·rw [if_pos c2] at H
  have c2b0 : (a0 == 1) = true := beq_iff_eq.mpr c2
  have c2b1 : (a0 != 1) = false := bne_eq_false_iff_eq.mpr c2
  clear c2
  simp only [Option.some.injEq, Prod.mk.injEq] at H
  obtain ⟨rfl, rfl, rfl, rfl, rfl⟩ := H
  go_enter Try.func24, Try.ntmps24
  go_wp2_with (first | ((with_reducible refine gate_dst (N := 2) rfl ?_); refine box_event ?hg (N := 2) ?hd (cs := #[.bool false, .bool false, .bool false, .bool false, .bool false]) (t := 57) ?hr ?_; (case hd => rfl); (case hg => rfl); (case hr => first | (go_simp; done) | (go_simp; rfl)); intro gb213 hg w3 hbox hb; have n0_ := Aside0.mk (below_step (by repeat (first | (with_reducible first | exact HB.out | apply below_alloc | apply pw_below_drewN | apply below_drew1) | exact HB.out)) hb); have n1_ := Aside0.mk (hbox); have n2_ := Aside0.mk ((by rw [hg]; exact (below_size (by repeat (first | (with_reducible first | exact HB.out | apply below_alloc | apply pw_below_drewN | apply below_drew1) | exact HB.out))) : w.heap.size ≤ gb213)); have n3_ := Aside0.mk ((by rw [hg]; exact (below_size (by repeat (first | (with_reducible first | exact HB.out | apply below_alloc | apply pw_below_drewN | apply below_drew1) | exact HB.out))) : w.heap.size ≤ gb213)); clear HB; have HB := n0_; have BK213 := n1_; have GW213 := n2_; have GE213 := n3_; clear n0_ n1_ n2_ n3_; clear hb hbox hg; have hcz4_0 : w3.cell? ⟨gb213, 0, none⟩ = some (.bool false) := (blk_cell BK213.out 0).trans rfl; have hcz4_1 : w3.cell? ⟨gb213, 1, none⟩ = some (.bool false) := (blk_cell BK213.out 1).trans rfl; have hcz4_2 : w3.cell? ⟨gb213, 2, none⟩ = some (.bool false) := (blk_cell BK213.out 2).trans rfl; have hcz4_3 : w3.cell? ⟨gb213, 3, none⟩ = some (.bool false) := (blk_cell BK213.out 3).trans rfl; have hcz4_4 : w3.cell? ⟨gb213, 4, none⟩ = some (.bool false) := (blk_cell BK213.out 4).trans rfl; have hfz4_0 := blk_frozen BK213.out 0; have hfz4_1 := blk_frozen BK213.out 1; have hfz4_2 := blk_frozen BK213.out 2; have hfz4_3 := blk_frozen BK213.out 3; have hfz4_4 := blk_frozen BK213.out 4))
  refine bodyPost_ret (results_cell_row rfl _ _ gb213 57 #[.bool true, .bool false, .bool false, .bool true, .bool false] (0, 0) _ rfl (by (with_reducible repeat (first | refine blk_drewN ?_ _ | refine blk_drew ?_ | refine blk_alloc ?_ _)); refine blk_put (cs := #[.bool true, .bool false, .bool false, .bool true, .bool false]) ?_ 4 _ rfl; (with_reducible repeat (first | refine blk_drewN ?_ _ | refine blk_drew ?_ | refine blk_alloc ?_ _)); refine blk_put (cs := #[.bool true, .bool false, .bool false, .bool false, .bool false]) ?_ 3 _ rfl; (with_reducible repeat (first | refine blk_drewN ?_ _ | refine blk_drew ?_ | refine blk_alloc ?_ _)); refine blk_put (cs := #[.bool true, .bool false, .bool false, .bool false, .bool false]) ?_ 2 _ rfl; (with_reducible repeat (first | refine blk_drewN ?_ _ | refine blk_drew ?_ | refine blk_alloc ?_ _)); refine blk_put (cs := #[.bool true, .bool false, .bool false, .bool false, .bool false]) ?_ 1 _ rfl; (with_reducible repeat (first | refine blk_drewN ?_ _ | refine blk_drew ?_ | refine blk_alloc ?_ _)); refine blk_put (cs := #[.bool false, .bool false, .bool false, .bool false, .bool false]) ?_ 0 _ rfl; (with_reducible repeat (first | refine blk_drewN ?_ _ | refine blk_drew ?_ | refine blk_alloc ?_ _)); exact BK213.out) Try.underlying57 rfl (by kernel_rfl)) rfl ?_
  exact ⟨by first | rfl | (simp [errW_none, errW_some] <;> rfl) | (simp [*, errW_none, errW_some] <;> rfl), by repeat (first | (with_reducible first | exact HB.out | apply below_alloc | apply pw_below_drewN | apply below_drew1 | refine below_set ?_ GE213.out) | exact HB.out)⟩
 ·rw [if_neg c2] at H
  have c2b0 : (a0 == 1) = false := beq_eq_false_iff_ne.mpr c2
  have c2b1 : (a0 != 1) = true := bne_iff_ne.mpr c2
  by_cases c5 : a0 = 2
  ·rw [if_pos c5] at H
   have c5b0 : (a0 == 2) = true := beq_iff_eq.mpr c5
   have c5b1 : (a0 != 2) = false := bne_eq_false_iff_eq.mpr c5
   clear c5
   simp only [Option.some.injEq, Prod.mk.injEq] at H
   obtain ⟨rfl, rfl, rfl, rfl, rfl⟩ := H
   go_enter Try.func24, Try.ntmps24
   go_wp2_with (first | ((with_reducible refine gate_dst (N := 2) rfl ?_); refine box_event ?hg (N := 2) ?hd (cs := #[.bool false, .bool false, .bool false, .bool false, .bool false]) (t := 57) ?hr ?_; (case hd => rfl); (case hg => rfl); (case hr => first | (go_simp; done) | (go_simp; rfl)); intro gb213 hg w6 hbox hb; have n0_ := Aside0.mk (below_step (by repeat (first | (with_reducible first | exact HB.out | apply below_alloc | apply pw_below_drewN | apply below_drew1) | exact HB.out)) hb); have n1_ := Aside0.mk (hbox); have n2_ := Aside0.mk ((by rw [hg]; exact (below_size (by repeat (first | (with_reducible first | exact HB.out | apply below_alloc | apply pw_below_drewN | apply below_drew1) | exact HB.out))) : w.heap.size ≤ gb213)); have n3_ := Aside0.mk ((by rw [hg]; exact (below_size (by repeat (first | (with_reducible first | exact HB.out | apply below_alloc | apply pw_below_drewN | apply below_drew1) | exact HB.out))) : w.heap.size ≤ gb213)); clear HB; have HB := n0_; have BK213 := n1_; have GW213 := n2_; have GE213 := n3_; clear n0_ n1_ n2_ n3_; clear hb hbox hg; have hcz7_0 : w6.cell? ⟨gb213, 0, none⟩ = some (.bool false) := (blk_cell BK213.out 0).trans rfl; have hcz7_1 : w6.cell? ⟨gb213, 1, none⟩ = some (.bool false) := (blk_cell BK213.out 1).trans rfl; have hcz7_2 : w6.cell? ⟨gb213, 2, none⟩ = some (.bool false) := (blk_cell BK213.out 2).trans rfl; have hcz7_3 : w6.cell? ⟨gb213, 3, none⟩ = some (.bool false) := (blk_cell BK213.out 3).trans rfl; have hcz7_4 : w6.cell? ⟨gb213, 4, none⟩ = some (.bool false) := (blk_cell BK213.out 4).trans rfl; have hfz7_0 := blk_frozen BK213.out 0; have hfz7_1 := blk_frozen BK213.out 1; have hfz7_2 := blk_frozen BK213.out 2; have hfz7_3 := blk_frozen BK213.out 3; have hfz7_4 := blk_frozen BK213.out 4))
   refine bodyPost_ret (results_cell_row rfl _ _ gb213 57 #[.bool true, .bool true, .bool false, .bool false, .bool false] (0, 0) _ rfl (by (with_reducible repeat (first | refine blk_drewN ?_ _ | refine blk_drew ?_ | refine blk_alloc ?_ _)); refine blk_put (cs := #[.bool true, .bool true, .bool false, .bool false, .bool false]) ?_ 4 _ rfl; (with_reducible repeat (first | refine blk_drewN ?_ _ | refine blk_drew ?_ | refine blk_alloc ?_ _)); refine blk_put (cs := #[.bool true, .bool true, .bool false, .bool false, .bool false]) ?_ 3 _ rfl; (with_reducible repeat (first | refine blk_drewN ?_ _ | refine blk_drew ?_ | refine blk_alloc ?_ _)); refine blk_put (cs := #[.bool true, .bool true, .bool false, .bool false, .bool false]) ?_ 2 _ rfl; (with_reducible repeat (first | refine blk_drewN ?_ _ | refine blk_drew ?_ | refine blk_alloc ?_ _)); refine blk_put (cs := #[.bool true, .bool false, .bool false, .bool false, .bool false]) ?_ 1 _ rfl; (with_reducible repeat (first | refine blk_drewN ?_ _ | refine blk_drew ?_ | refine blk_alloc ?_ _)); refine blk_put (cs := #[.bool false, .bool false, .bool false, .bool false, .bool false]) ?_ 0 _ rfl; (with_reducible repeat (first | refine blk_drewN ?_ _ | refine blk_drew ?_ | refine blk_alloc ?_ _)); exact BK213.out) Try.underlying57 rfl (by kernel_rfl)) rfl ?_
   exact ⟨by first | rfl | (simp [errW_none, errW_some] <;> rfl) | (simp [*, errW_none, errW_some] <;> rfl), by repeat (first | (with_reducible first | exact HB.out | apply below_alloc | apply pw_below_drewN | apply below_drew1 | refine below_set ?_ GE213.out) | exact HB.out)⟩
  ·rw [if_neg c5] at H
   have c5b0 : (a0 == 2) = false := beq_eq_false_iff_ne.mpr c5
   have c5b1 : (a0 != 2) = true := bne_iff_ne.mpr c5
   have HC8 := Aside0.mk H
   clear H
   go_enter Try.func24, Try.ntmps24
   go_upto_if 10 with (first | ((with_reducible refine gate_dst (N := 2) rfl ?_); refine box_event ?hg (N := 2) ?hd (cs := #[.bool false, .bool false, .bool false, .bool false, .bool false]) (t := 57) ?hr ?_; (case hd => rfl); (case hg => rfl); (case hr => first | (go_simp; done) | (go_simp; rfl)); intro gb213 hg w9 hbox hb; have n0_ := Aside0.mk (below_step (by repeat (first | (with_reducible first | exact HB.out | apply below_alloc | apply pw_below_drewN | apply below_drew1) | exact HB.out)) hb); have n1_ := Aside0.mk (hbox); have n2_ := Aside0.mk ((by rw [hg]; exact (below_size (by repeat (first | (with_reducible first | exact HB.out | apply below_alloc | apply pw_below_drewN | apply below_drew1) | exact HB.out))) : w.heap.size ≤ gb213)); have n3_ := Aside0.mk ((by rw [hg]; exact (below_size (by repeat (first | (with_reducible first | exact HB.out | apply below_alloc | apply pw_below_drewN | apply below_drew1) | exact HB.out))) : w.heap.size ≤ gb213)); clear HB; have HB := n0_; have BK213 := n1_; have GW213 := n2_; have GE213 := n3_; clear n0_ n1_ n2_ n3_; clear hb hbox hg))
   (try simp only [Act.put, List.setIfInBounds_toArray, List.set_cons_zero, List.set_cons_succ])
   go_cut [10] (fun v10 wc => ∃ (kq : Nat) (x10_7 : Bool), v10 = .bool x10_7 ∧ Aside0 (pleatref02_Has.j0 kq a0 x10_7 = some (r1, r2, r3, r4, r5)) ∧ Aside0 (kq ≤ k) ∧ Aside0 (wc.heap[gb213]? = some (.cells #[.bool false, .bool false, .bool false, .bool false, .bool false] 57 (0, 0))) ∧ Aside0 (Below w.heap.size w wc))
   case first =>
    have H := HC8.out
    clear HC8
    by_cases c10 : a0 = 3
    ·rw [if_pos c10] at H
     have c10b0 : (a0 == 3) = true := beq_iff_eq.mpr c10
     have c10b1 : (a0 != 3) = false := bne_eq_false_iff_eq.mpr c10
     clear c10
     (first | rw [c10b0] | (simp only [i64_w, i32_w]; rw [c10b0]) | skip)
     have H' := Aside0.mk H
     clear H
     go_wp2
     go_meet
     case rel => exact ⟨_, ((a0 == 3)), (by first | rfl | (simp; done) | (simp [*]; done)), H', ⟨by first | omega | exact Nat.le_refl _⟩, ⟨by (with_reducible repeat (first | refine blk_drewN ?_ _ | refine blk_drew ?_ | refine blk_alloc ?_ _)); exact BK213.out⟩, ⟨by repeat (first | (with_reducible first | exact HB.out | apply below_alloc | apply pw_below_drewN | apply below_drew1 | refine below_set ?_ GE213.out) | exact HB.out)⟩⟩
    ·rw [if_neg c10] at H
     have c10b0 : (a0 == 3) = false := beq_eq_false_iff_ne.mpr c10
     have c10b1 : (a0 != 3) = true := bne_iff_ne.mpr c10
     (first | rw [c10b0] | (simp only [i64_w, i32_w]; rw [c10b0]) | skip)
     by_cases c11 : a0 = 4
     ·rw [if_pos c11] at H
      have c11b0 : (a0 == 4) = true := beq_iff_eq.mpr c11
      have c11b1 : (a0 != 4) = false := bne_eq_false_iff_eq.mpr c11
      clear c11
      have H' := Aside0.mk H
      clear H
      go_wp2
      go_meet
      case rel => exact ⟨_, ((a0 == 4)), (by first | rfl | (simp; done) | (simp [*]; done)), H', ⟨by first | omega | exact Nat.le_refl _⟩, ⟨by (with_reducible repeat (first | refine blk_drewN ?_ _ | refine blk_drew ?_ | refine blk_alloc ?_ _)); exact BK213.out⟩, ⟨by repeat (first | (with_reducible first | exact HB.out | apply below_alloc | apply pw_below_drewN | apply below_drew1 | refine below_set ?_ GE213.out) | exact HB.out)⟩⟩
     ·rw [if_neg c11] at H
      have c11b0 : (a0 == 4) = false := beq_eq_false_iff_ne.mpr c11
      have c11b1 : (a0 != 4) = true := bne_iff_ne.mpr c11
      by_cases c12 : a0 = 5
      ·rw [if_pos c12] at H
       have c12b0 : (a0 == 5) = true := beq_iff_eq.mpr c12
       have c12b1 : (a0 != 5) = false := bne_eq_false_iff_eq.mpr c12
       clear c12
       have H' := Aside0.mk H
       clear H
       go_wp2
       go_meet
       case rel => exact ⟨_, ((a0 == 5)), (by first | rfl | (simp; done) | (simp [*]; done)), H', ⟨by first | omega | exact Nat.le_refl _⟩, ⟨by (with_reducible repeat (first | refine blk_drewN ?_ _ | refine blk_drew ?_ | refine blk_alloc ?_ _)); exact BK213.out⟩, ⟨by repeat (first | (with_reducible first | exact HB.out | apply below_alloc | apply pw_below_drewN | apply below_drew1 | refine below_set ?_ GE213.out) | exact HB.out)⟩⟩
      ·rw [if_neg c12] at H
       have c12b0 : (a0 == 5) = false := beq_eq_false_iff_ne.mpr c12
       have c12b1 : (a0 != 5) = true := bne_iff_ne.mpr c12
       by_cases c13 : a0 = 6
       ·rw [if_pos c13] at H
        have c13b0 : (a0 == 6) = true := beq_iff_eq.mpr c13
        have c13b1 : (a0 != 6) = false := bne_eq_false_iff_eq.mpr c13
        clear c13
        have H' := Aside0.mk H
        clear H
        go_wp2
        go_meet
        case rel => exact ⟨_, ((a0 == 6)), (by first | rfl | (simp; done) | (simp [*]; done)), H', ⟨by first | omega | exact Nat.le_refl _⟩, ⟨by (with_reducible repeat (first | refine blk_drewN ?_ _ | refine blk_drew ?_ | refine blk_alloc ?_ _)); exact BK213.out⟩, ⟨by repeat (first | (with_reducible first | exact HB.out | apply below_alloc | apply pw_below_drewN | apply below_drew1 | refine below_set ?_ GE213.out) | exact HB.out)⟩⟩
       ·rw [if_neg c13] at H
        have c13b0 : (a0 == 6) = false := beq_eq_false_iff_ne.mpr c13
        have c13b1 : (a0 != 6) = true := bne_iff_ne.mpr c13
        by_cases c14 : a0 = 7
        ·rw [if_pos c14] at H
         have c14b0 : (a0 == 7) = true := beq_iff_eq.mpr c14
         have c14b1 : (a0 != 7) = false := bne_eq_false_iff_eq.mpr c14
         clear c14
         have H' := Aside0.mk H
         clear H
         go_wp2
         go_meet
         case rel => exact ⟨_, ((a0 == 7)), (by first | rfl | (simp; done) | (simp [*]; done)), H', ⟨by first | omega | exact Nat.le_refl _⟩, ⟨by (with_reducible repeat (first | refine blk_drewN ?_ _ | refine blk_drew ?_ | refine blk_alloc ?_ _)); exact BK213.out⟩, ⟨by repeat (first | (with_reducible first | exact HB.out | apply below_alloc | apply pw_below_drewN | apply below_drew1 | refine below_set ?_ GE213.out) | exact HB.out)⟩⟩
        ·rw [if_neg c14] at H
         have c14b0 : (a0 == 7) = false := beq_eq_false_iff_ne.mpr c14
         have c14b1 : (a0 != 7) = true := bne_iff_ne.mpr c14
         by_cases c15 : a0 = 8
         ·rw [if_pos c15] at H
          have c15b0 : (a0 == 8) = true := beq_iff_eq.mpr c15
          have c15b1 : (a0 != 8) = false := bne_eq_false_iff_eq.mpr c15
          clear c15
          have H' := Aside0.mk H
          clear H
          go_wp2
          go_meet
          case rel => exact ⟨_, ((a0 == 8)), (by first | rfl | (simp; done) | (simp [*]; done)), H', ⟨by first | omega | exact Nat.le_refl _⟩, ⟨by (with_reducible repeat (first | refine blk_drewN ?_ _ | refine blk_drew ?_ | refine blk_alloc ?_ _)); exact BK213.out⟩, ⟨by repeat (first | (with_reducible first | exact HB.out | apply below_alloc | apply pw_below_drewN | apply below_drew1 | refine below_set ?_ GE213.out) | exact HB.out)⟩⟩
         ·rw [if_neg c15] at H
          have c15b0 : (a0 == 8) = false := beq_eq_false_iff_ne.mpr c15
          have c15b1 : (a0 != 8) = true := bne_iff_ne.mpr c15
          by_cases c16 : a0 = 9
          ·rw [if_pos c16] at H
           have c16b0 : (a0 == 9) = true := beq_iff_eq.mpr c16
           have c16b1 : (a0 != 9) = false := bne_eq_false_iff_eq.mpr c16
           clear c16
           have H' := Aside0.mk H
           clear H
           go_wp2
           go_meet
           case rel => exact ⟨_, ((a0 == 9)), (by first | rfl | (simp; done) | (simp [*]; done)), H', ⟨by first | omega | exact Nat.le_refl _⟩, ⟨by (with_reducible repeat (first | refine blk_drewN ?_ _ | refine blk_drew ?_ | refine blk_alloc ?_ _)); exact BK213.out⟩, ⟨by repeat (first | (with_reducible first | exact HB.out | apply below_alloc | apply pw_below_drewN | apply below_drew1 | refine below_set ?_ GE213.out) | exact HB.out)⟩⟩
          ·rw [if_neg c16] at H
           have c16b0 : (a0 == 9) = false := beq_eq_false_iff_ne.mpr c16
           have c16b1 : (a0 != 9) = true := bne_iff_ne.mpr c16
           have H' := Aside0.mk H
           clear H
           go_wp2
           go_meet
           case rel => exact ⟨_, ((a0 == 10)), (by first | rfl | (simp; done) | (simp [*]; done)), H', ⟨by first | omega | exact Nat.le_refl _⟩, ⟨by (with_reducible repeat (first | refine blk_drewN ?_ _ | refine blk_drew ?_ | refine blk_alloc ?_ _)); exact BK213.out⟩, ⟨by repeat (first | (with_reducible first | exact HB.out | apply below_alloc | apply pw_below_drewN | apply below_drew1 | refine below_set ?_ GE213.out) | exact HB.out)⟩⟩
   case rest =>
    clear HC8
    try clear c1
    try clear c2
    try clear c2b0
    try clear c2b1
    try clear p2
    try clear c5
    try clear c5b0
    try clear c5b1
    try clear c10
    try clear c10b0
    try clear c10b1
    try clear c11
    try clear c11b0
    try clear c11b1
    try clear c12
    try clear c12b0
    try clear c12b1
    try clear c13
    try clear c13b0
    try clear c13b1
    try clear c14
    try clear c14b0
    try clear c14b1
    try clear c15
    try clear c15b0
    try clear c15b1
    try clear c16
    try clear c16b0
    try clear c16b1
    try clear hcz4_0
    try clear hcz4_1
    try clear hcz4_2
    try clear hcz4_3
    try clear hcz4_4
    try clear hcz7_0
    try clear hcz7_1
    try clear hcz7_2
    try clear hcz7_3
    try clear hcz7_4
    try clear hfz4_0
    try clear hfz4_1
    try clear hfz4_2
    try clear hfz4_3
    try clear hfz4_4
    try clear hfz7_0
    try clear hfz7_1
    try clear hfz7_2
    try clear hfz7_3
    try clear hfz7_4
    obtain ⟨kq, x10_7, rfl, HA, HJ7, BK213, HB⟩ := hcut
    cases kq with
    | zero => exact absurd HA.out (by simp [pleatref02_Has.j0])
    | succ kj7 =>
     have H := HA.out
     clear HA
     simp only [pleatref02_Has.j0] at H
     by_cases c17 : x10_7 = true
     ·subst c17
      have H1 : (some (true, true, true, false, false)) = some (r1, r2, r3, r4, r5) := by rw [if_pos rfl] at H; exact H
      clear H
      have H := H1
      clear H1
      simp only [Option.some.injEq, Prod.mk.injEq] at H
      obtain ⟨rfl, rfl, rfl, rfl, rfl⟩ := H
      have hcz18_0 : wc.cell? ⟨gb213, 0, none⟩ = some (.bool false) := (blk_cell BK213.out 0).trans rfl
      have hcz18_1 : wc.cell? ⟨gb213, 1, none⟩ = some (.bool false) := (blk_cell BK213.out 1).trans rfl
      have hcz18_2 : wc.cell? ⟨gb213, 2, none⟩ = some (.bool false) := (blk_cell BK213.out 2).trans rfl
      have hcz18_3 : wc.cell? ⟨gb213, 3, none⟩ = some (.bool false) := (blk_cell BK213.out 3).trans rfl
      have hcz18_4 : wc.cell? ⟨gb213, 4, none⟩ = some (.bool false) := (blk_cell BK213.out 4).trans rfl
      have hfz18_0 := blk_frozen BK213.out 0
      have hfz18_1 := blk_frozen BK213.out 1
      have hfz18_2 := blk_frozen BK213.out 2
      have hfz18_3 := blk_frozen BK213.out 3
      have hfz18_4 := blk_frozen BK213.out 4
      go_wp2
      refine bodyPost_ret (results_cell_row rfl _ _ gb213 57 #[.bool true, .bool true, .bool true, .bool false, .bool false] (0, 0) _ rfl (by (with_reducible repeat (first | refine blk_drewN ?_ _ | refine blk_drew ?_ | refine blk_alloc ?_ _)); refine blk_put (cs := #[.bool true, .bool true, .bool true, .bool false, .bool false]) ?_ 4 _ rfl; (with_reducible repeat (first | refine blk_drewN ?_ _ | refine blk_drew ?_ | refine blk_alloc ?_ _)); refine blk_put (cs := #[.bool true, .bool true, .bool true, .bool false, .bool false]) ?_ 3 _ rfl; (with_reducible repeat (first | refine blk_drewN ?_ _ | refine blk_drew ?_ | refine blk_alloc ?_ _)); refine blk_put (cs := #[.bool true, .bool true, .bool false, .bool false, .bool false]) ?_ 2 _ rfl; (with_reducible repeat (first | refine blk_drewN ?_ _ | refine blk_drew ?_ | refine blk_alloc ?_ _)); refine blk_put (cs := #[.bool true, .bool false, .bool false, .bool false, .bool false]) ?_ 1 _ rfl; (with_reducible repeat (first | refine blk_drewN ?_ _ | refine blk_drew ?_ | refine blk_alloc ?_ _)); refine blk_put (cs := #[.bool false, .bool false, .bool false, .bool false, .bool false]) ?_ 0 _ rfl; (with_reducible repeat (first | refine blk_drewN ?_ _ | refine blk_drew ?_ | refine blk_alloc ?_ _)); exact BK213.out) Try.underlying57 rfl (by kernel_rfl)) rfl ?_
      exact ⟨by first | rfl | (simp [errW_none, errW_some] <;> rfl) | (simp [*, errW_none, errW_some] <;> rfl), by repeat (first | (with_reducible first | exact HB.out | apply below_alloc | apply pw_below_drewN | apply below_drew1 | refine below_set ?_ GE213.out) | exact HB.out)⟩
     ·replace c17 := Bool.eq_false_iff.mpr c17
      subst c17
      have H1 : (if a0 = 11 then (some (true, true, false, true, false)) else (if a0 = 12 then (some (false, true, true, true, false)) else (if a0 = 13 then (some (true, false, false, false, false)) else (if a0 = 14 then (some (false, true, false, true, false)) else (if a0 = 15 then (pleatref02_Has.j1 kj7 a0 (a0 == 15)) else (pleatref02_Has.j1 kj7 a0 (a0 == 17))))))) = some (r1, r2, r3, r4, r5) := by rw [if_neg (show ¬ (false = true) by decide)] at H; exact H
      clear H
      have H := H1
      clear H1
      by_cases c19 : a0 = 11
      ·rw [if_pos c19] at H
       have c19b0 : (a0 == 11) = true := beq_iff_eq.mpr c19
       have c19b1 : (a0 != 11) = false := bne_eq_false_iff_eq.mpr c19
       clear c19
       simp only [Option.some.injEq, Prod.mk.injEq] at H
       obtain ⟨rfl, rfl, rfl, rfl, rfl⟩ := H
       have hcz20_0 : wc.cell? ⟨gb213, 0, none⟩ = some (.bool false) := (blk_cell BK213.out 0).trans rfl
       have hcz20_1 : wc.cell? ⟨gb213, 1, none⟩ = some (.bool false) := (blk_cell BK213.out 1).trans rfl
       have hcz20_2 : wc.cell? ⟨gb213, 2, none⟩ = some (.bool false) := (blk_cell BK213.out 2).trans rfl
       have hcz20_3 : wc.cell? ⟨gb213, 3, none⟩ = some (.bool false) := (blk_cell BK213.out 3).trans rfl
       have hcz20_4 : wc.cell? ⟨gb213, 4, none⟩ = some (.bool false) := (blk_cell BK213.out 4).trans rfl
       have hfz20_0 := blk_frozen BK213.out 0
       have hfz20_1 := blk_frozen BK213.out 1
       have hfz20_2 := blk_frozen BK213.out 2
       have hfz20_3 := blk_frozen BK213.out 3
       have hfz20_4 := blk_frozen BK213.out 4
       go_wp2
       refine bodyPost_ret (results_cell_row rfl _ _ gb213 57 #[.bool true, .bool true, .bool false, .bool true, .bool false] (0, 0) _ rfl (by (with_reducible repeat (first | refine blk_drewN ?_ _ | refine blk_drew ?_ | refine blk_alloc ?_ _)); refine blk_put (cs := #[.bool true, .bool true, .bool false, .bool true, .bool false]) ?_ 4 _ rfl; (with_reducible repeat (first | refine blk_drewN ?_ _ | refine blk_drew ?_ | refine blk_alloc ?_ _)); refine blk_put (cs := #[.bool true, .bool true, .bool false, .bool false, .bool false]) ?_ 3 _ rfl; (with_reducible repeat (first | refine blk_drewN ?_ _ | refine blk_drew ?_ | refine blk_alloc ?_ _)); refine blk_put (cs := #[.bool true, .bool true, .bool false, .bool false, .bool false]) ?_ 2 _ rfl; (with_reducible repeat (first | refine blk_drewN ?_ _ | refine blk_drew ?_ | refine blk_alloc ?_ _)); refine blk_put (cs := #[.bool true, .bool false, .bool false, .bool false, .bool false]) ?_ 1 _ rfl; (with_reducible repeat (first | refine blk_drewN ?_ _ | refine blk_drew ?_ | refine blk_alloc ?_ _)); refine blk_put (cs := #[.bool false, .bool false, .bool false, .bool false, .bool false]) ?_ 0 _ rfl; (with_reducible repeat (first | refine blk_drewN ?_ _ | refine blk_drew ?_ | refine blk_alloc ?_ _)); exact BK213.out) Try.underlying57 rfl (by kernel_rfl)) rfl ?_
       exact ⟨by first | rfl | (simp [errW_none, errW_some] <;> rfl) | (simp [*, errW_none, errW_some] <;> rfl), by repeat (first | (with_reducible first | exact HB.out | apply below_alloc | apply pw_below_drewN | apply below_drew1 | refine below_set ?_ GE213.out) | exact HB.out)⟩
      ·rw [if_neg c19] at H
       have c19b0 : (a0 == 11) = false := beq_eq_false_iff_ne.mpr c19
       have c19b1 : (a0 != 11) = true := bne_iff_ne.mpr c19
       by_cases c21 : a0 = 12
       ·rw [if_pos c21] at H
        have c21b0 : (a0 == 12) = true := beq_iff_eq.mpr c21
        have c21b1 : (a0 != 12) = false := bne_eq_false_iff_eq.mpr c21
        clear c21
        simp only [Option.some.injEq, Prod.mk.injEq] at H
        obtain ⟨rfl, rfl, rfl, rfl, rfl⟩ := H
        have hcz22_0 : wc.cell? ⟨gb213, 0, none⟩ = some (.bool false) := (blk_cell BK213.out 0).trans rfl
        have hcz22_1 : wc.cell? ⟨gb213, 1, none⟩ = some (.bool false) := (blk_cell BK213.out 1).trans rfl
        have hcz22_2 : wc.cell? ⟨gb213, 2, none⟩ = some (.bool false) := (blk_cell BK213.out 2).trans rfl
        have hcz22_3 : wc.cell? ⟨gb213, 3, none⟩ = some (.bool false) := (blk_cell BK213.out 3).trans rfl
        have hcz22_4 : wc.cell? ⟨gb213, 4, none⟩ = some (.bool false) := (blk_cell BK213.out 4).trans rfl
        have hfz22_0 := blk_frozen BK213.out 0
        have hfz22_1 := blk_frozen BK213.out 1
        have hfz22_2 := blk_frozen BK213.out 2
        have hfz22_3 := blk_frozen BK213.out 3
        have hfz22_4 := blk_frozen BK213.out 4
        go_wp2
        refine bodyPost_ret (results_cell_row rfl _ _ gb213 57 #[.bool false, .bool true, .bool true, .bool true, .bool false] (0, 0) _ rfl (by (with_reducible repeat (first | refine blk_drewN ?_ _ | refine blk_drew ?_ | refine blk_alloc ?_ _)); refine blk_put (cs := #[.bool false, .bool true, .bool true, .bool true, .bool false]) ?_ 4 _ rfl; (with_reducible repeat (first | refine blk_drewN ?_ _ | refine blk_drew ?_ | refine blk_alloc ?_ _)); refine blk_put (cs := #[.bool false, .bool true, .bool true, .bool false, .bool false]) ?_ 3 _ rfl; (with_reducible repeat (first | refine blk_drewN ?_ _ | refine blk_drew ?_ | refine blk_alloc ?_ _)); refine blk_put (cs := #[.bool false, .bool true, .bool false, .bool false, .bool false]) ?_ 2 _ rfl; (with_reducible repeat (first | refine blk_drewN ?_ _ | refine blk_drew ?_ | refine blk_alloc ?_ _)); refine blk_put (cs := #[.bool false, .bool false, .bool false, .bool false, .bool false]) ?_ 1 _ rfl; (with_reducible repeat (first | refine blk_drewN ?_ _ | refine blk_drew ?_ | refine blk_alloc ?_ _)); refine blk_put (cs := #[.bool false, .bool false, .bool false, .bool false, .bool false]) ?_ 0 _ rfl; (with_reducible repeat (first | refine blk_drewN ?_ _ | refine blk_drew ?_ | refine blk_alloc ?_ _)); exact BK213.out) Try.underlying57 rfl (by kernel_rfl)) rfl ?_
        exact ⟨by first | rfl | (simp [errW_none, errW_some] <;> rfl) | (simp [*, errW_none, errW_some] <;> rfl), by repeat (first | (with_reducible first | exact HB.out | apply below_alloc | apply pw_below_drewN | apply below_drew1 | refine below_set ?_ GE213.out) | exact HB.out)⟩
       ·rw [if_neg c21] at H
        have c21b0 : (a0 == 12) = false := beq_eq_false_iff_ne.mpr c21
        have c21b1 : (a0 != 12) = true := bne_iff_ne.mpr c21
        by_cases c23 : a0 = 13
        ·rw [if_pos c23] at H
         have c23b0 : (a0 == 13) = true := beq_iff_eq.mpr c23
         have c23b1 : (a0 != 13) = false := bne_eq_false_iff_eq.mpr c23
         clear c23
         simp only [Option.some.injEq, Prod.mk.injEq] at H
         obtain ⟨rfl, rfl, rfl, rfl, rfl⟩ := H
         have hcz24_0 : wc.cell? ⟨gb213, 0, none⟩ = some (.bool false) := (blk_cell BK213.out 0).trans rfl
         have hcz24_1 : wc.cell? ⟨gb213, 1, none⟩ = some (.bool false) := (blk_cell BK213.out 1).trans rfl
         have hcz24_2 : wc.cell? ⟨gb213, 2, none⟩ = some (.bool false) := (blk_cell BK213.out 2).trans rfl
         have hcz24_3 : wc.cell? ⟨gb213, 3, none⟩ = some (.bool false) := (blk_cell BK213.out 3).trans rfl
         have hcz24_4 : wc.cell? ⟨gb213, 4, none⟩ = some (.bool false) := (blk_cell BK213.out 4).trans rfl
         have hfz24_0 := blk_frozen BK213.out 0
         have hfz24_1 := blk_frozen BK213.out 1
         have hfz24_2 := blk_frozen BK213.out 2
         have hfz24_3 := blk_frozen BK213.out 3
         have hfz24_4 := blk_frozen BK213.out 4
         go_wp2
         refine bodyPost_ret (results_cell_row rfl _ _ gb213 57 #[.bool true, .bool false, .bool false, .bool false, .bool false] (0, 0) _ rfl (by (with_reducible repeat (first | refine blk_drewN ?_ _ | refine blk_drew ?_ | refine blk_alloc ?_ _)); refine blk_put (cs := #[.bool true, .bool false, .bool false, .bool false, .bool false]) ?_ 4 _ rfl; (with_reducible repeat (first | refine blk_drewN ?_ _ | refine blk_drew ?_ | refine blk_alloc ?_ _)); refine blk_put (cs := #[.bool true, .bool false, .bool false, .bool false, .bool false]) ?_ 3 _ rfl; (with_reducible repeat (first | refine blk_drewN ?_ _ | refine blk_drew ?_ | refine blk_alloc ?_ _)); refine blk_put (cs := #[.bool true, .bool false, .bool false, .bool false, .bool false]) ?_ 2 _ rfl; (with_reducible repeat (first | refine blk_drewN ?_ _ | refine blk_drew ?_ | refine blk_alloc ?_ _)); refine blk_put (cs := #[.bool true, .bool false, .bool false, .bool false, .bool false]) ?_ 1 _ rfl; (with_reducible repeat (first | refine blk_drewN ?_ _ | refine blk_drew ?_ | refine blk_alloc ?_ _)); refine blk_put (cs := #[.bool false, .bool false, .bool false, .bool false, .bool false]) ?_ 0 _ rfl; (with_reducible repeat (first | refine blk_drewN ?_ _ | refine blk_drew ?_ | refine blk_alloc ?_ _)); exact BK213.out) Try.underlying57 rfl (by kernel_rfl)) rfl ?_
         exact ⟨by first | rfl | (simp [errW_none, errW_some] <;> rfl) | (simp [*, errW_none, errW_some] <;> rfl), by repeat (first | (with_reducible first | exact HB.out | apply below_alloc | apply pw_below_drewN | apply below_drew1 | refine below_set ?_ GE213.out) | exact HB.out)⟩
        ·rw [if_neg c23] at H
         have c23b0 : (a0 == 13) = false := beq_eq_false_iff_ne.mpr c23
         have c23b1 : (a0 != 13) = true := bne_iff_ne.mpr c23
         by_cases c25 : a0 = 14
         ·rw [if_pos c25] at H
          have c25b0 : (a0 == 14) = true := beq_iff_eq.mpr c25
          have c25b1 : (a0 != 14) = false := bne_eq_false_iff_eq.mpr c25
          clear c25
          simp only [Option.some.injEq, Prod.mk.injEq] at H
          obtain ⟨rfl, rfl, rfl, rfl, rfl⟩ := H
          have hcz26_0 : wc.cell? ⟨gb213, 0, none⟩ = some (.bool false) := (blk_cell BK213.out 0).trans rfl
          have hcz26_1 : wc.cell? ⟨gb213, 1, none⟩ = some (.bool false) := (blk_cell BK213.out 1).trans rfl
          have hcz26_2 : wc.cell? ⟨gb213, 2, none⟩ = some (.bool false) := (blk_cell BK213.out 2).trans rfl
          have hcz26_3 : wc.cell? ⟨gb213, 3, none⟩ = some (.bool false) := (blk_cell BK213.out 3).trans rfl
          have hcz26_4 : wc.cell? ⟨gb213, 4, none⟩ = some (.bool false) := (blk_cell BK213.out 4).trans rfl
          have hfz26_0 := blk_frozen BK213.out 0
          have hfz26_1 := blk_frozen BK213.out 1
          have hfz26_2 := blk_frozen BK213.out 2
          have hfz26_3 := blk_frozen BK213.out 3
          have hfz26_4 := blk_frozen BK213.out 4
          go_wp2
          refine bodyPost_ret (results_cell_row rfl _ _ gb213 57 #[.bool false, .bool true, .bool false, .bool true, .bool false] (0, 0) _ rfl (by (with_reducible repeat (first | refine blk_drewN ?_ _ | refine blk_drew ?_ | refine blk_alloc ?_ _)); refine blk_put (cs := #[.bool false, .bool true, .bool false, .bool true, .bool false]) ?_ 4 _ rfl; (with_reducible repeat (first | refine blk_drewN ?_ _ | refine blk_drew ?_ | refine blk_alloc ?_ _)); refine blk_put (cs := #[.bool false, .bool true, .bool false, .bool false, .bool false]) ?_ 3 _ rfl; (with_reducible repeat (first | refine blk_drewN ?_ _ | refine blk_drew ?_ | refine blk_alloc ?_ _)); refine blk_put (cs := #[.bool false, .bool true, .bool false, .bool false, .bool false]) ?_ 2 _ rfl; (with_reducible repeat (first | refine blk_drewN ?_ _ | refine blk_drew ?_ | refine blk_alloc ?_ _)); refine blk_put (cs := #[.bool false, .bool false, .bool false, .bool false, .bool false]) ?_ 1 _ rfl; (with_reducible repeat (first | refine blk_drewN ?_ _ | refine blk_drew ?_ | refine blk_alloc ?_ _)); refine blk_put (cs := #[.bool false, .bool false, .bool false, .bool false, .bool false]) ?_ 0 _ rfl; (with_reducible repeat (first | refine blk_drewN ?_ _ | refine blk_drew ?_ | refine blk_alloc ?_ _)); exact BK213.out) Try.underlying57 rfl (by kernel_rfl)) rfl ?_
          exact ⟨by first | rfl | (simp [errW_none, errW_some] <;> rfl) | (simp [*, errW_none, errW_some] <;> rfl), by repeat (first | (with_reducible first | exact HB.out | apply below_alloc | apply pw_below_drewN | apply below_drew1 | refine below_set ?_ GE213.out) | exact HB.out)⟩
         ·rw [if_neg c25] at H
          have c25b0 : (a0 == 14) = false := beq_eq_false_iff_ne.mpr c25
          have c25b1 : (a0 != 14) = true := bne_iff_ne.mpr c25
          have HC27 := Aside0.mk H
          clear H
          go_upto_if 32 with (fail)
          go_cut [32] (fun v32 wc => ∃ (kq : Nat) (x32_26 : Bool), v32 = .bool x32_26 ∧ Aside0 (pleatref02_Has.j1 kq a0 x32_26 = some (r1, r2, r3, r4, r5)) ∧ Aside0 (kq ≤ kj7) ∧ Aside0 (wc.heap[gb213]? = some (.cells #[.bool false, .bool false, .bool false, .bool false, .bool false] 57 (0, 0))) ∧ Aside0 (Below w.heap.size w wc))
          case first =>
           have H := HC27.out
           clear HC27
           by_cases c28 : a0 = 15
           ·rw [if_pos c28] at H
            have c28b0 : (a0 == 15) = true := beq_iff_eq.mpr c28
            have c28b1 : (a0 != 15) = false := bne_eq_false_iff_eq.mpr c28
            clear c28
            (first | rw [c28b0] | (simp only [i64_w, i32_w]; rw [c28b0]) | skip)
            have H' := Aside0.mk H
            clear H
            go_wp2
            go_meet
            case rel => exact ⟨_, ((a0 == 15)), (by first | rfl | (simp; done) | (simp [*]; done)), H', ⟨by have := HJ7.out; first | omega | exact Nat.le_refl _⟩, ⟨by (with_reducible repeat (first | refine blk_drewN ?_ _ | refine blk_drew ?_ | refine blk_alloc ?_ _)); exact BK213.out⟩, ⟨by repeat (first | (with_reducible first | exact HB.out | apply below_alloc | apply pw_below_drewN | apply below_drew1 | refine below_set ?_ GE213.out) | exact HB.out)⟩⟩
           ·rw [if_neg c28] at H
            have c28b0 : (a0 == 15) = false := beq_eq_false_iff_ne.mpr c28
            have c28b1 : (a0 != 15) = true := bne_iff_ne.mpr c28
            (first | rw [c28b0] | (simp only [i64_w, i32_w]; rw [c28b0]) | skip)
            have H' := Aside0.mk H
            clear H
            go_wp2
            go_meet
            case rel => exact ⟨_, ((a0 == 17)), (by first | rfl | (simp; done) | (simp [*]; done)), H', ⟨by have := HJ7.out; first | omega | exact Nat.le_refl _⟩, ⟨by (with_reducible repeat (first | refine blk_drewN ?_ _ | refine blk_drew ?_ | refine blk_alloc ?_ _)); exact BK213.out⟩, ⟨by repeat (first | (with_reducible first | exact HB.out | apply below_alloc | apply pw_below_drewN | apply below_drew1 | refine below_set ?_ GE213.out) | exact HB.out)⟩⟩
          case rest =>
           clear HC27
           try clear c1
           try clear c2
           try clear c2b0
           try clear c2b1
           try clear p2
           try clear c5
           try clear c5b0
           try clear c5b1
           try clear c10
           try clear c10b0
           try clear c10b1
           try clear c11
           try clear c11b0
           try clear c11b1
           try clear c12
           try clear c12b0
           try clear c12b1
           try clear c13
           try clear c13b0
           try clear c13b1
           try clear c14
           try clear c14b0
           try clear c14b1
           try clear c15
           try clear c15b0
           try clear c15b1
           try clear c16
           try clear c16b0
           try clear c16b1
           try clear c17
           try clear c19
           try clear c19b0
           try clear c19b1
           try clear c21
           try clear c21b0
           try clear c21b1
           try clear c23
           try clear c23b0
           try clear c23b1
           try clear c24
           try clear c25
           try clear c25b0
           try clear c25b1
           try clear c28
           try clear c28b0
           try clear c28b1
           try clear hcz18_0
           try clear hcz18_1
           try clear hcz18_2
           try clear hcz18_3
           try clear hcz18_4
           try clear hcz20_0
           try clear hcz20_1
           try clear hcz20_2
           try clear hcz20_3
           try clear hcz20_4
           try clear hcz22_0
           try clear hcz22_1
           try clear hcz22_2
           try clear hcz22_3
           try clear hcz22_4
           try clear hcz24_0
           try clear hcz24_1
           try clear hcz24_2
           try clear hcz24_3
           try clear hcz24_4
           try clear hcz26_0
           try clear hcz26_1
           try clear hcz26_2
           try clear hcz26_3
           try clear hcz26_4
           try clear hcz4_0
           try clear hcz4_1
           try clear hcz4_2
           try clear hcz4_3
           try clear hcz4_4
           try clear hcz7_0
           try clear hcz7_1
           try clear hcz7_2
           try clear hcz7_3
           try clear hcz7_4
           try clear hfz18_0
           try clear hfz18_1
           try clear hfz18_2
           try clear hfz18_3
           try clear hfz18_4
           try clear hfz20_0
           try clear hfz20_1
           try clear hfz20_2
           try clear hfz20_3
           try clear hfz20_4
           try clear hfz22_0
           try clear hfz22_1
           try clear hfz22_2
           try clear hfz22_3
           try clear hfz22_4
           try clear hfz24_0
           try clear hfz24_1
           try clear hfz24_2
           try clear hfz24_3
           try clear hfz24_4
           try clear hfz26_0
           try clear hfz26_1
           try clear hfz26_2
           try clear hfz26_3
           try clear hfz26_4
           try clear hfz4_0
           try clear hfz4_1
           try clear hfz4_2
           try clear hfz4_3
           try clear hfz4_4
           try clear hfz7_0
           try clear hfz7_1
           try clear hfz7_2
           try clear hfz7_3
           try clear hfz7_4
           try clear p2
           obtain ⟨kq, x32_26, rfl, HA, HJ26, BK213, HB⟩ := hcut
           cases kq with
           | zero => exact absurd HA.out (by simp [pleatref02_Has.j1])
           | succ kj26 =>
            have H := HA.out
            clear HA
            simp only [pleatref02_Has.j1] at H
            by_cases c29 : x32_26 = true
            ·subst c29
             have H1 : (some (false, false, false, true, true)) = some (r1, r2, r3, r4, r5) := by rw [if_pos rfl] at H; exact H
             clear H
             have H := H1
             clear H1
             simp only [Option.some.injEq, Prod.mk.injEq] at H
             obtain ⟨rfl, rfl, rfl, rfl, rfl⟩ := H
             have hcz30_0 : wc.cell? ⟨gb213, 0, none⟩ = some (.bool false) := (blk_cell BK213.out 0).trans rfl
             have hcz30_1 : wc.cell? ⟨gb213, 1, none⟩ = some (.bool false) := (blk_cell BK213.out 1).trans rfl
             have hcz30_2 : wc.cell? ⟨gb213, 2, none⟩ = some (.bool false) := (blk_cell BK213.out 2).trans rfl
             have hcz30_3 : wc.cell? ⟨gb213, 3, none⟩ = some (.bool false) := (blk_cell BK213.out 3).trans rfl
             have hcz30_4 : wc.cell? ⟨gb213, 4, none⟩ = some (.bool false) := (blk_cell BK213.out 4).trans rfl
             have hfz30_0 := blk_frozen BK213.out 0
             have hfz30_1 := blk_frozen BK213.out 1
             have hfz30_2 := blk_frozen BK213.out 2
             have hfz30_3 := blk_frozen BK213.out 3
             have hfz30_4 := blk_frozen BK213.out 4
             go_wp2
             refine bodyPost_ret (results_cell_row rfl _ _ gb213 57 #[.bool false, .bool false, .bool false, .bool true, .bool true] (0, 0) _ rfl (by (with_reducible repeat (first | refine blk_drewN ?_ _ | refine blk_drew ?_ | refine blk_alloc ?_ _)); refine blk_put (cs := #[.bool false, .bool false, .bool false, .bool true, .bool false]) ?_ 4 _ rfl; (with_reducible repeat (first | refine blk_drewN ?_ _ | refine blk_drew ?_ | refine blk_alloc ?_ _)); refine blk_put (cs := #[.bool false, .bool false, .bool false, .bool false, .bool false]) ?_ 3 _ rfl; (with_reducible repeat (first | refine blk_drewN ?_ _ | refine blk_drew ?_ | refine blk_alloc ?_ _)); refine blk_put (cs := #[.bool false, .bool false, .bool false, .bool false, .bool false]) ?_ 2 _ rfl; (with_reducible repeat (first | refine blk_drewN ?_ _ | refine blk_drew ?_ | refine blk_alloc ?_ _)); refine blk_put (cs := #[.bool false, .bool false, .bool false, .bool false, .bool false]) ?_ 1 _ rfl; (with_reducible repeat (first | refine blk_drewN ?_ _ | refine blk_drew ?_ | refine blk_alloc ?_ _)); refine blk_put (cs := #[.bool false, .bool false, .bool false, .bool false, .bool false]) ?_ 0 _ rfl; (with_reducible repeat (first | refine blk_drewN ?_ _ | refine blk_drew ?_ | refine blk_alloc ?_ _)); exact BK213.out) Try.underlying57 rfl (by kernel_rfl)) rfl ?_
             exact ⟨by first | rfl | (simp [errW_none, errW_some] <;> rfl) | (simp [*, errW_none, errW_some] <;> rfl), by repeat (first | (with_reducible first | exact HB.out | apply below_alloc | apply pw_below_drewN | apply below_drew1 | refine below_set ?_ GE213.out) | exact HB.out)⟩
            ·replace c29 := Bool.eq_false_iff.mpr c29
             subst c29
             have H1 : (if a0 = 16 then (some (false, true, false, true, true)) else (if a0 = 18 then (pleatref02_Has.j2 kj26 a0 (a0 == 18)) else (pleatref02_Has.j2 kj26 a0 (a0 == 19)))) = some (r1, r2, r3, r4, r5) := by rw [if_neg (show ¬ (false = true) by decide)] at H; exact H
             clear H
             have H := H1
             clear H1
             by_cases c31 : a0 = 16
             ·rw [if_pos c31] at H
              have c31b0 : (a0 == 16) = true := beq_iff_eq.mpr c31
              have c31b1 : (a0 != 16) = false := bne_eq_false_iff_eq.mpr c31
              clear c31
              simp only [Option.some.injEq, Prod.mk.injEq] at H
              obtain ⟨rfl, rfl, rfl, rfl, rfl⟩ := H
              have hcz32_0 : wc.cell? ⟨gb213, 0, none⟩ = some (.bool false) := (blk_cell BK213.out 0).trans rfl
              have hcz32_1 : wc.cell? ⟨gb213, 1, none⟩ = some (.bool false) := (blk_cell BK213.out 1).trans rfl
              have hcz32_2 : wc.cell? ⟨gb213, 2, none⟩ = some (.bool false) := (blk_cell BK213.out 2).trans rfl
              have hcz32_3 : wc.cell? ⟨gb213, 3, none⟩ = some (.bool false) := (blk_cell BK213.out 3).trans rfl
              have hcz32_4 : wc.cell? ⟨gb213, 4, none⟩ = some (.bool false) := (blk_cell BK213.out 4).trans rfl
              have hfz32_0 := blk_frozen BK213.out 0
              have hfz32_1 := blk_frozen BK213.out 1
              have hfz32_2 := blk_frozen BK213.out 2
              have hfz32_3 := blk_frozen BK213.out 3
              have hfz32_4 := blk_frozen BK213.out 4
              go_wp2
              refine bodyPost_ret (results_cell_row rfl _ _ gb213 57 #[.bool false, .bool true, .bool false, .bool true, .bool true] (0, 0) _ rfl (by (with_reducible repeat (first | refine blk_drewN ?_ _ | refine blk_drew ?_ | refine blk_alloc ?_ _)); refine blk_put (cs := #[.bool false, .bool true, .bool false, .bool true, .bool false]) ?_ 4 _ rfl; (with_reducible repeat (first | refine blk_drewN ?_ _ | refine blk_drew ?_ | refine blk_alloc ?_ _)); refine blk_put (cs := #[.bool false, .bool true, .bool false, .bool false, .bool false]) ?_ 3 _ rfl; (with_reducible repeat (first | refine blk_drewN ?_ _ | refine blk_drew ?_ | refine blk_alloc ?_ _)); refine blk_put (cs := #[.bool false, .bool true, .bool false, .bool false, .bool false]) ?_ 2 _ rfl; (with_reducible repeat (first | refine blk_drewN ?_ _ | refine blk_drew ?_ | refine blk_alloc ?_ _)); refine blk_put (cs := #[.bool false, .bool false, .bool false, .bool false, .bool false]) ?_ 1 _ rfl; (with_reducible repeat (first | refine blk_drewN ?_ _ | refine blk_drew ?_ | refine blk_alloc ?_ _)); refine blk_put (cs := #[.bool false, .bool false, .bool false, .bool false, .bool false]) ?_ 0 _ rfl; (with_reducible repeat (first | refine blk_drewN ?_ _ | refine blk_drew ?_ | refine blk_alloc ?_ _)); exact BK213.out) Try.underlying57 rfl (by kernel_rfl)) rfl ?_
              exact ⟨by first | rfl | (simp [errW_none, errW_some] <;> rfl) | (simp [*, errW_none, errW_some] <;> rfl), by repeat (first | (with_reducible first | exact HB.out | apply below_alloc | apply pw_below_drewN | apply below_drew1 | refine below_set ?_ GE213.out) | exact HB.out)⟩
             ·rw [if_neg c31] at H
              have c31b0 : (a0 == 16) = false := beq_eq_false_iff_ne.mpr c31
              have c31b1 : (a0 != 16) = true := bne_iff_ne.mpr c31
              have HC33 := Aside0.mk H
              clear H
              go_upto_if 39 with (fail)
              go_cut [39] (fun v39 wc => ∃ (kq : Nat) (x39_32 : Bool), v39 = .bool x39_32 ∧ Aside0 (pleatref02_Has.j2 kq a0 x39_32 = some (r1, r2, r3, r4, r5)) ∧ Aside0 (kq ≤ kj26) ∧ Aside0 (wc.heap[gb213]? = some (.cells #[.bool false, .bool false, .bool false, .bool false, .bool false] 57 (0, 0))) ∧ Aside0 (Below w.heap.size w wc))
              case first =>
               have H := HC33.out
               clear HC33
               by_cases c34 : a0 = 18
               ·rw [if_pos c34] at H
                have c34b0 : (a0 == 18) = true := beq_iff_eq.mpr c34
                have c34b1 : (a0 != 18) = false := bne_eq_false_iff_eq.mpr c34
                clear c34
                (first | rw [c34b0] | (simp only [i64_w, i32_w]; rw [c34b0]) | skip)
                have H' := Aside0.mk H
                clear H
                go_wp2
                go_meet
                case rel => exact ⟨_, ((a0 == 18)), (by first | rfl | (simp; done) | (simp [*]; done)), H', ⟨by have := HJ7.out; have := HJ26.out; first | omega | exact Nat.le_refl _⟩, ⟨by (with_reducible repeat (first | refine blk_drewN ?_ _ | refine blk_drew ?_ | refine blk_alloc ?_ _)); exact BK213.out⟩, ⟨by repeat (first | (with_reducible first | exact HB.out | apply below_alloc | apply pw_below_drewN | apply below_drew1 | refine below_set ?_ GE213.out) | exact HB.out)⟩⟩
               ·rw [if_neg c34] at H
                have c34b0 : (a0 == 18) = false := beq_eq_false_iff_ne.mpr c34
                have c34b1 : (a0 != 18) = true := bne_iff_ne.mpr c34
                (first | rw [c34b0] | (simp only [i64_w, i32_w]; rw [c34b0]) | skip)
                have H' := Aside0.mk H
                clear H
                go_wp2
                go_meet
                case rel => exact ⟨_, ((a0 == 19)), (by first | rfl | (simp; done) | (simp [*]; done)), H', ⟨by have := HJ7.out; have := HJ26.out; first | omega | exact Nat.le_refl _⟩, ⟨by (with_reducible repeat (first | refine blk_drewN ?_ _ | refine blk_drew ?_ | refine blk_alloc ?_ _)); exact BK213.out⟩, ⟨by repeat (first | (with_reducible first | exact HB.out | apply below_alloc | apply pw_below_drewN | apply below_drew1 | refine below_set ?_ GE213.out) | exact HB.out)⟩⟩
              case rest =>
               clear HC33
               try clear c1
               try clear c2
               try clear c2b0
               try clear c2b1
               try clear p2
               try clear c3
               try clear c5
               try clear c5b0
               try clear c5b1
               try clear c10
               try clear c10b0
               try clear c10b1
               try clear c11
               try clear c11b0
               try clear c11b1
               try clear c12
               try clear c12b0
               try clear c12b1
               try clear c13
               try clear c13b0
               try clear c13b1
               try clear c14
               try clear c14b0
               try clear c14b1
               try clear c15
               try clear c15b0
               try clear c15b1
               try clear c16
               try clear c16b0
               try clear c16b1
               try clear c17
               try clear c19
               try clear c19b0
               try clear c19b1
               try clear c21
               try clear c21b0
               try clear c21b1
               try clear c23
               try clear c23b0
               try clear c23b1
               try clear c24
               try clear c25
               try clear c25b0
               try clear c25b1
               try clear c28
               try clear c28b0
               try clear c28b1
               try clear c29
               try clear c31
               try clear c31b0
               try clear c31b1
               try clear c34
               try clear c34b0
               try clear c34b1
               try clear hcz18_0
               try clear hcz18_1
               try clear hcz18_2
               try clear hcz18_3
               try clear hcz18_4
               try clear hcz20_0
               try clear hcz20_1
               try clear hcz20_2
               try clear hcz20_3
               try clear hcz20_4
               try clear hcz22_0
               try clear hcz22_1
               try clear hcz22_2
               try clear hcz22_3
               try clear hcz22_4
               try clear hcz24_0
               try clear hcz24_1
               try clear hcz24_2
               try clear hcz24_3
               try clear hcz24_4
               try clear hcz26_0
               try clear hcz26_1
               try clear hcz26_2
               try clear hcz26_3
               try clear hcz26_4
               try clear hcz30_0
               try clear hcz30_1
               try clear hcz30_2
               try clear hcz30_3
               try clear hcz30_4
               try clear hcz32_0
               try clear hcz32_1
               try clear hcz32_2
               try clear hcz32_3
               try clear hcz32_4
               try clear hcz4_0
               try clear hcz4_1
               try clear hcz4_2
               try clear hcz4_3
               try clear hcz4_4
               try clear hcz7_0
               try clear hcz7_1
               try clear hcz7_2
               try clear hcz7_3
               try clear hcz7_4
               try clear hfz18_0
               try clear hfz18_1
               try clear hfz18_2
               try clear hfz18_3
               try clear hfz18_4
               try clear hfz20_0
               try clear hfz20_1
               try clear hfz20_2
               try clear hfz20_3
               try clear hfz20_4
               try clear hfz22_0
               try clear hfz22_1
               try clear hfz22_2
               try clear hfz22_3
               try clear hfz22_4
               try clear hfz24_0
               try clear hfz24_1
               try clear hfz24_2
               try clear hfz24_3
               try clear hfz24_4
               try clear hfz26_0
               try clear hfz26_1
               try clear hfz26_2
               try clear hfz26_3
               try clear hfz26_4
               try clear hfz30_0
               try clear hfz30_1
               try clear hfz30_2
               try clear hfz30_3
               try clear hfz30_4
               try clear hfz32_0
               try clear hfz32_1
               try clear hfz32_2
               try clear hfz32_3
               try clear hfz32_4
               try clear hfz4_0
               try clear hfz4_1
               try clear hfz4_2
               try clear hfz4_3
               try clear hfz4_4
               try clear hfz7_0
               try clear hfz7_1
               try clear hfz7_2
               try clear hfz7_3
               try clear hfz7_4
               try clear p2
               obtain ⟨kq, x39_32, rfl, HA, HJ32, BK213, HB⟩ := hcut
               cases kq with
               | zero => exact absurd HA.out (by simp [pleatref02_Has.j2])
               | succ kj32 =>
                have H := HA.out
                clear HA
                simp only [pleatref02_Has.j2] at H
                by_cases c35 : x39_32 = true
                ·subst c35
                 have H1 : (some (false, true, false, false, false)) = some (r1, r2, r3, r4, r5) := by rw [if_pos rfl] at H; exact H
                 clear H
                 have H := H1
                 clear H1
                 simp only [Option.some.injEq, Prod.mk.injEq] at H
                 obtain ⟨rfl, rfl, rfl, rfl, rfl⟩ := H
                 have hcz36_0 : wc.cell? ⟨gb213, 0, none⟩ = some (.bool false) := (blk_cell BK213.out 0).trans rfl
                 have hcz36_1 : wc.cell? ⟨gb213, 1, none⟩ = some (.bool false) := (blk_cell BK213.out 1).trans rfl
                 have hcz36_2 : wc.cell? ⟨gb213, 2, none⟩ = some (.bool false) := (blk_cell BK213.out 2).trans rfl
                 have hcz36_3 : wc.cell? ⟨gb213, 3, none⟩ = some (.bool false) := (blk_cell BK213.out 3).trans rfl
                 have hcz36_4 : wc.cell? ⟨gb213, 4, none⟩ = some (.bool false) := (blk_cell BK213.out 4).trans rfl
                 have hfz36_0 := blk_frozen BK213.out 0
                 have hfz36_1 := blk_frozen BK213.out 1
                 have hfz36_2 := blk_frozen BK213.out 2
                 have hfz36_3 := blk_frozen BK213.out 3
                 have hfz36_4 := blk_frozen BK213.out 4
                 go_wp2
                 refine bodyPost_ret (results_cell_row rfl _ _ gb213 57 #[.bool false, .bool true, .bool false, .bool false, .bool false] (0, 0) _ rfl (by (with_reducible repeat (first | refine blk_drewN ?_ _ | refine blk_drew ?_ | refine blk_alloc ?_ _)); refine blk_put (cs := #[.bool false, .bool true, .bool false, .bool false, .bool false]) ?_ 4 _ rfl; (with_reducible repeat (first | refine blk_drewN ?_ _ | refine blk_drew ?_ | refine blk_alloc ?_ _)); refine blk_put (cs := #[.bool false, .bool true, .bool false, .bool false, .bool false]) ?_ 3 _ rfl; (with_reducible repeat (first | refine blk_drewN ?_ _ | refine blk_drew ?_ | refine blk_alloc ?_ _)); refine blk_put (cs := #[.bool false, .bool true, .bool false, .bool false, .bool false]) ?_ 2 _ rfl; (with_reducible repeat (first | refine blk_drewN ?_ _ | refine blk_drew ?_ | refine blk_alloc ?_ _)); refine blk_put (cs := #[.bool false, .bool false, .bool false, .bool false, .bool false]) ?_ 1 _ rfl; (with_reducible repeat (first | refine blk_drewN ?_ _ | refine blk_drew ?_ | refine blk_alloc ?_ _)); refine blk_put (cs := #[.bool false, .bool false, .bool false, .bool false, .bool false]) ?_ 0 _ rfl; (with_reducible repeat (first | refine blk_drewN ?_ _ | refine blk_drew ?_ | refine blk_alloc ?_ _)); exact BK213.out) Try.underlying57 rfl (by kernel_rfl)) rfl ?_
                 exact ⟨by first | rfl | (simp [errW_none, errW_some] <;> rfl) | (simp [*, errW_none, errW_some] <;> rfl), by repeat (first | (with_reducible first | exact HB.out | apply below_alloc | apply pw_below_drewN | apply below_drew1 | refine below_set ?_ GE213.out) | exact HB.out)⟩
                ·replace c35 := Bool.eq_false_iff.mpr c35
                 subst c35
                 have H1 : (if a0 = 20 then (some (true, false, false, true, true)) else (some (false, false, false, false, false))) = some (r1, r2, r3, r4, r5) := by rw [if_neg (show ¬ (false = true) by decide)] at H; exact H
                 clear H
                 have H := H1
                 clear H1
                 by_cases c37 : a0 = 20
                 ·rw [if_pos c37] at H
                  have c37b0 : (a0 == 20) = true := beq_iff_eq.mpr c37
                  have c37b1 : (a0 != 20) = false := bne_eq_false_iff_eq.mpr c37
                  clear c37
                  simp only [Option.some.injEq, Prod.mk.injEq] at H
                  obtain ⟨rfl, rfl, rfl, rfl, rfl⟩ := H
                  have hcz38_0 : wc.cell? ⟨gb213, 0, none⟩ = some (.bool false) := (blk_cell BK213.out 0).trans rfl
                  have hcz38_1 : wc.cell? ⟨gb213, 1, none⟩ = some (.bool false) := (blk_cell BK213.out 1).trans rfl
                  have hcz38_2 : wc.cell? ⟨gb213, 2, none⟩ = some (.bool false) := (blk_cell BK213.out 2).trans rfl
                  have hcz38_3 : wc.cell? ⟨gb213, 3, none⟩ = some (.bool false) := (blk_cell BK213.out 3).trans rfl
                  have hcz38_4 : wc.cell? ⟨gb213, 4, none⟩ = some (.bool false) := (blk_cell BK213.out 4).trans rfl
                  have hfz38_0 := blk_frozen BK213.out 0
                  have hfz38_1 := blk_frozen BK213.out 1
                  have hfz38_2 := blk_frozen BK213.out 2
                  have hfz38_3 := blk_frozen BK213.out 3
                  have hfz38_4 := blk_frozen BK213.out 4
                  go_wp2
                  refine bodyPost_ret (results_cell_row rfl _ _ gb213 57 #[.bool true, .bool false, .bool false, .bool true, .bool true] (0, 0) _ rfl (by (with_reducible repeat (first | refine blk_drewN ?_ _ | refine blk_drew ?_ | refine blk_alloc ?_ _)); refine blk_put (cs := #[.bool true, .bool false, .bool false, .bool true, .bool false]) ?_ 4 _ rfl; (with_reducible repeat (first | refine blk_drewN ?_ _ | refine blk_drew ?_ | refine blk_alloc ?_ _)); refine blk_put (cs := #[.bool true, .bool false, .bool false, .bool false, .bool false]) ?_ 3 _ rfl; (with_reducible repeat (first | refine blk_drewN ?_ _ | refine blk_drew ?_ | refine blk_alloc ?_ _)); refine blk_put (cs := #[.bool true, .bool false, .bool false, .bool false, .bool false]) ?_ 2 _ rfl; (with_reducible repeat (first | refine blk_drewN ?_ _ | refine blk_drew ?_ | refine blk_alloc ?_ _)); refine blk_put (cs := #[.bool true, .bool false, .bool false, .bool false, .bool false]) ?_ 1 _ rfl; (with_reducible repeat (first | refine blk_drewN ?_ _ | refine blk_drew ?_ | refine blk_alloc ?_ _)); refine blk_put (cs := #[.bool false, .bool false, .bool false, .bool false, .bool false]) ?_ 0 _ rfl; (with_reducible repeat (first | refine blk_drewN ?_ _ | refine blk_drew ?_ | refine blk_alloc ?_ _)); exact BK213.out) Try.underlying57 rfl (by kernel_rfl)) rfl ?_
                  exact ⟨by first | rfl | (simp [errW_none, errW_some] <;> rfl) | (simp [*, errW_none, errW_some] <;> rfl), by repeat (first | (with_reducible first | exact HB.out | apply below_alloc | apply pw_below_drewN | apply below_drew1 | refine below_set ?_ GE213.out) | exact HB.out)⟩
                 ·rw [if_neg c37] at H
                  have c37b0 : (a0 == 20) = false := beq_eq_false_iff_ne.mpr c37
                  have c37b1 : (a0 != 20) = true := bne_iff_ne.mpr c37
                  simp only [Option.some.injEq, Prod.mk.injEq] at H
                  obtain ⟨rfl, rfl, rfl, rfl, rfl⟩ := H
                  have hcz39_0 : wc.cell? ⟨gb213, 0, none⟩ = some (.bool false) := (blk_cell BK213.out 0).trans rfl
                  have hcz39_1 : wc.cell? ⟨gb213, 1, none⟩ = some (.bool false) := (blk_cell BK213.out 1).trans rfl
                  have hcz39_2 : wc.cell? ⟨gb213, 2, none⟩ = some (.bool false) := (blk_cell BK213.out 2).trans rfl
                  have hcz39_3 : wc.cell? ⟨gb213, 3, none⟩ = some (.bool false) := (blk_cell BK213.out 3).trans rfl
                  have hcz39_4 : wc.cell? ⟨gb213, 4, none⟩ = some (.bool false) := (blk_cell BK213.out 4).trans rfl
                  have hfz39_0 := blk_frozen BK213.out 0
                  have hfz39_1 := blk_frozen BK213.out 1
                  have hfz39_2 := blk_frozen BK213.out 2
                  have hfz39_3 := blk_frozen BK213.out 3
                  have hfz39_4 := blk_frozen BK213.out 4
                  go_wp2
                  refine bodyPost_ret (results_cell_row rfl _ _ gb213 57 #[.bool false, .bool false, .bool false, .bool false, .bool false] (0, 0) _ rfl (by (with_reducible repeat (first | refine blk_drewN ?_ _ | refine blk_drew ?_ | refine blk_alloc ?_ _)); refine blk_put (cs := #[.bool false, .bool false, .bool false, .bool false, .bool false]) ?_ 4 _ rfl; (with_reducible repeat (first | refine blk_drewN ?_ _ | refine blk_drew ?_ | refine blk_alloc ?_ _)); refine blk_put (cs := #[.bool false, .bool false, .bool false, .bool false, .bool false]) ?_ 3 _ rfl; (with_reducible repeat (first | refine blk_drewN ?_ _ | refine blk_drew ?_ | refine blk_alloc ?_ _)); refine blk_put (cs := #[.bool false, .bool false, .bool false, .bool false, .bool false]) ?_ 2 _ rfl; (with_reducible repeat (first | refine blk_drewN ?_ _ | refine blk_drew ?_ | refine blk_alloc ?_ _)); refine blk_put (cs := #[.bool false, .bool false, .bool false, .bool false, .bool false]) ?_ 1 _ rfl; (with_reducible repeat (first | refine blk_drewN ?_ _ | refine blk_drew ?_ | refine blk_alloc ?_ _)); refine blk_put (cs := #[.bool false, .bool false, .bool false, .bool false, .bool false]) ?_ 0 _ rfl; (with_reducible repeat (first | refine blk_drewN ?_ _ | refine blk_drew ?_ | refine blk_alloc ?_ _)); exact BK213.out) Try.underlying57 rfl (by kernel_rfl)) rfl ?_
                  exact ⟨by first | rfl | (simp [errW_none, errW_some] <;> rfl) | (simp [*, errW_none, errW_some] <;> rfl), by repeat (first | (with_reducible first | exact HB.out | apply below_alloc | apply pw_below_drewN | apply below_drew1 | refine below_set ?_ GE213.out) | exact HB.out)⟩

end Go.Proofs.Ytidcijicehgfkaa.PK
