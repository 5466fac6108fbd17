-- Printed by this session's own program (wip/tools/hybrid.sh) over its own contracts
import Derived.Test.YtidcijicehgfkaaPKx0
import Derived.Test.YtidcijicehgfkaaPKx1
import Derived.Test.YtidcijicehgfkaaPKx2
import Derived.LoopN
import Derived.Maps.OwnOps
import Derived.Maps.OwnSet
import Derived.Maps.Views
import Derived.Shelf.Abstract
namespace Go.Proofs.Ytidcijicehgfkaa.PK
open Go.RowKit Go.Proofs.YtidcijicehgfkaaW.PrintWords Go.Proofs.YtidcijicehgfkaaW.PrintLast Go.Proofs.YtidcijicehgfkaaW.PrintMore
attribute [local go_sem] max2_int min2_int max_two min_two max_three min_three max_four min_four   -- for this text's walks alone
set_option linter.unusedVariables false
set_option linter.unusedSimpArgs false

/-! ### block_Blocks_1: function 45 -/
-- CALLS pleat/isa.Target
-- CALLS pleat/isa.Ends
-- CALLS pleat/block.gather$1
-- CALLS pleat/block.gather
theorem cell_grown_map {w w' : World} {a : Addr} {v : Value} {b : Nat} {es : Array MapEntry} {c : Nat} (hc : w.cell? a = some v) (hb : w.heap[b]? = some (.map es c)) (hg : w.grownBy w' (some b)) : w'.cell? a = some v := by
 have hlt := World.block_lt_of_cell? w a hc
 have hne : a.block ≠ b := by
  intro e
  rw [← e] at hb
  simp [World.cell?, hb] at hc
 have h := hg.block a.block hlt (by simpa using hne)
 simpa [World.cell?, h] using hc
theorem BMap.isMap {P : Program} {k e : TypeId} {w : World} {b n : Nat} {f : Int → Bool} (h : BMap P k e w b n f) : ∃ es c, w.heap[b]? = some (.map es c) := by
 obtain ⟨D, ⟨es, c, hb, _⟩, _⟩ := h
 exact ⟨es, c, hb⟩
theorem BMap.cell {P : Program} {k e : TypeId} {w w' : World} {b n : Nat} {f : Int → Bool} (h : BMap P k e w b n f) (hg : w.grownBy w' (some b)) {a : Addr} {v : Value} (hc : w.cell? a = some v) : w'.cell? a = some v := by
 obtain ⟨es, c, hb⟩ := h.isMap
 exact cell_grown_map hc hb hg
theorem BMap.blk {P : Program} {k e : TypeId} {w w' : World} {b n : Nat} {f : Int → Bool} (h : BMap P k e w b n f) (hg : w.grownBy w' (some b)) {g : Nat} {cs : Array Value} {t : TypeId} {fr : Nat × Nat} (hc : w.heap[g]? = some (.cells cs t fr)) : w'.heap[g]? = some (.cells cs t fr) := by
 obtain ⟨es, c, hb⟩ := h.isMap
 refine (hg.block g (blk_lt hc) ?_).trans hc
 intro e
 injection e with e
 rw [e, hb] at hc
 cases hc
def block_Blocks.mk (k : Nat) (entry : Int) (i x : Int) (_ : Int × Int × Int × Int × Int) : Option (List Int) :=
 (isa_Target.f k x).bind fun t => (isa_Ends.f k x).bind fun en =>
  if (Lit.int .i64 t.1).wf = true ∧ (Lit.int .i64 entry).wf = true then some ((if t.2 = true then [t.1] else []) ++ ((if en = true then [i + 1] else []) ++ [entry, 0])) else none
set_option maxHeartbeats 8000000 in
set_option maxRecDepth 100000 in
theorem block_Blocks_1.calls (k : Nat) (A0_0 : Option Addr) (c0_0 : Nat) (l0_0 : List Int) (a0_1 : Int) (V2 : Value) (gi : Nat) (i x d0 d1 d2 d3 d4 : Int) (c : List Int) (w : World) (bx b n : Nat) (f : Int → Bool) (hi0 : 0 ≤ i) (hi1 : i < l0_0.length) (hx : rd l0_0 i = x)
  (hmk : block_Blocks.mk k a0_1 i x (d0, d1, d2, d3, d4) = some c) (hgi : w.heap[gi]? = some (.cells #[.slice A0_0 l0_0.length c0_0, .int .i64 a0_1, V2] 32 (0, 0))) (hr0_0 : Kd.C (Kd.int .u32) w A0_0 l0_0.length l0_0) (hlen : l0_0.length ≤ 16384)
  (hbx : w.heap[bx]? = some (.cells #[.map (some b)] 91 (0, 0))) (hM : BMap Try.prog 3 4 w b n f) (hn : n + 4 ≤ maxLen) :
  Calls Try.prog 45 #[.int .i64 i, .agg #[.int .i8 d0, .int .i8 d1, .int .i8 d2, .int .i8 d3, .int .i64 d4], .func (.func 49) #[] #[.pointer (some ⟨bx, 0, none⟩)], .pointer (some ⟨gi, 0, none⟩)] w fun e w' =>
   e = .returned (.tuple #[]) ∧ BMap Try.prog 3 4 w' b (n + 4) (fun z => f z || decide (z ∈ c)) ∧ w.grownBy w' (some b) := by
 obtain ⟨⟨t, is⟩, h1, h⟩ := Option.bind_eq_some_iff.1 hmk
 obtain ⟨en, h2, h⟩ := Option.bind_eq_some_iff.1 h
 by_cases hw : (Lit.int .i64 t).wf = true ∧ (Lit.int .i64 a0_1).wf = true
 case neg => rw [if_neg hw] at h; cases h
 rw [if_pos hw] at h
 obtain rfl := Option.some.inj h
 subst hx
 have H1 := Aside0.mk h1
 have H2 := Aside0.mk h2
 have HW := Aside0.mk hw
 have HN := Aside0.mk hn
 have HBX := Aside0.mk hbx
 have HM := Aside0.mk hM
 obtain ⟨ad, e1, hcx⟩ := Kd.at_int hr0_0 i hi0 hi1
 cases e1
 have HGI := Aside0.mk hgi
 have HCX := Aside0.mk hcx
 have k0 := fun o => (blk_cell (blk_alloc hgi o) 0).trans rfl
 have kx := fun o => pw_cell_below (below_alloc (Below.refl w.heap.size w) o) hcx
 clear hgi hr0_0 hbx hM h1 h2 hw h hmk hn hcx
 go_enter Try.func45, Try.ntmps45
 go_wp2_with fail
 refine (isa_Target.calls k (rd l0_0 i) t is _ H1.out).mono ?_
 rintro e w1 ⟨rfl, hb⟩
 have HB := Aside0.mk (below_then (below_alloc (Below.refl w.heap.size w) _) (by simp) hb)
 clear k0 kx hb
 have HGI1 := Aside0.mk ((HB.out.block _ (blk_lt HGI.out)).trans HGI.out)
 have HBX1 := Aside0.mk ((HB.out.block _ (blk_lt HBX.out)).trans HBX.out)
 have HCX1 := Aside0.mk (pw_cell_below HB.out HCX.out)
 have HM1 := Aside0.mk (HM.out.below HB.out)
 have HG1 := Aside0.mk (grown_of_below HB.out (some b))
 clear HGI HBX HCX HM HB
 cases is with
 | true =>
  go_wp2_with fail
  refine (block_gather_1.calls t bx b _ _ _ HBX1.out HM1.out HW.out.1 (by have := HN.out; simp only [maxLen] at *; omega)).mono ?_
  rintro e w11 ⟨rfl, hM, hg⟩
  have HGI2 := Aside0.mk (HM1.out.blk hg HGI1.out)
  have HBX2 := Aside0.mk (HM1.out.blk hg HBX1.out)
  have HCX2 := Aside0.mk (HM1.out.cell hg HCX1.out)
  have HM2 := Aside0.mk hM
  have HG2 := Aside0.mk (World.grownBy.trans HG1.out hg)
  clear HGI1 HBX1 HCX1 HM1 HG1 hM hg
  try clear k0 k1 kx
  have k0 := (blk_cell HGI2.out 0).trans rfl
  have k1 := (blk_cell HGI2.out 1).trans rfl
  have kx := HCX2.out
  go_wp2_with fail
  refine (isa_Ends.calls k (rd l0_0 i) en _ H2.out).mono ?_
  rintro e w22 ⟨rfl, hb⟩
  have HGI3 := Aside0.mk ((hb.block _ (blk_lt HGI2.out)).trans HGI2.out)
  have HBX3 := Aside0.mk ((hb.block _ (blk_lt HBX2.out)).trans HBX2.out)
  have HCX3 := Aside0.mk (pw_cell_below hb HCX2.out)
  have HM3 := Aside0.mk (HM2.out.below hb)
  have HG3 := Aside0.mk (World.grownBy.trans HG2.out (grown_of_below hb (some b)))
  clear k0 k1 kx hb HGI2 HBX2 HCX2 HM2 HG2
  cases en with
  | true =>
   go_wp2_with fail
   refine (block_gather_1.calls (i + 1) bx b _ _ _ HBX3.out HM3.out (WalkArith.wf_i64 (by omega)) (by have := HN.out; simp only [maxLen] at *; omega)).mono ?_
   rintro e w13 ⟨rfl, hM, hg⟩
   have HGI4 := Aside0.mk (HM3.out.blk hg HGI3.out)
   have HBX4 := Aside0.mk (HM3.out.blk hg HBX3.out)
   have HCX4 := Aside0.mk (HM3.out.cell hg HCX3.out)
   have HM4 := Aside0.mk hM
   have HG4 := Aside0.mk (World.grownBy.trans HG3.out hg)
   clear HGI3 HBX3 HCX3 HM3 HG3 hM hg
   try clear k0 k1 kx
   have k0 := (blk_cell HGI4.out 0).trans rfl
   have k1 := (blk_cell HGI4.out 1).trans rfl
   have kx := HCX4.out
   go_wp2_with fail
   refine (block_gather_1.calls a0_1 bx b _ _ _ HBX4.out HM4.out HW.out.2 (by have := HN.out; simp only [maxLen] at *; omega)).mono ?_
   rintro e w14 ⟨rfl, hM, hg⟩
   have HGI5 := Aside0.mk (HM4.out.blk hg HGI4.out)
   have HBX5 := Aside0.mk (HM4.out.blk hg HBX4.out)
   have HCX5 := Aside0.mk (HM4.out.cell hg HCX4.out)
   have HM5 := Aside0.mk hM
   have HG5 := Aside0.mk (World.grownBy.trans HG4.out hg)
   clear HGI4 HBX4 HCX4 HM4 HG4 hM hg
   try clear k0 k1 kx
   go_wp2_with fail
   refine (block_gather_1.calls 0 bx b _ _ _ HBX5.out HM5.out (by decide) (by have := HN.out; simp only [maxLen] at *; omega)).mono ?_
   rintro e w15 ⟨rfl, hM, hg⟩
   have HGI6 := Aside0.mk (HM5.out.blk hg HGI5.out)
   have HBX6 := Aside0.mk (HM5.out.blk hg HBX5.out)
   have HCX6 := Aside0.mk (HM5.out.cell hg HCX5.out)
   have HM6 := Aside0.mk hM
   have HG6 := Aside0.mk (World.grownBy.trans HG5.out hg)
   clear HGI5 HBX5 HCX5 HM5 HG5 hM hg
   try clear k0 k1 kx
   go_wp2_with fail
   go_end0
   refine ⟨rfl, HM6.out.congr (by omega) (fun z => ?_), HG6.out⟩
   rw [Bool.eq_iff_iff]
   simp
   try grind
  | false =>
   have k0 := (blk_cell HGI3.out 0).trans rfl
   have k1 := (blk_cell HGI3.out 1).trans rfl
   have kx := HCX3.out
   go_wp2_with fail
   refine (block_gather_1.calls a0_1 bx b _ _ _ HBX3.out HM3.out HW.out.2 (by have := HN.out; simp only [maxLen] at *; omega)).mono ?_
   rintro e w13 ⟨rfl, hM, hg⟩
   have HGI4 := Aside0.mk (HM3.out.blk hg HGI3.out)
   have HBX4 := Aside0.mk (HM3.out.blk hg HBX3.out)
   have HCX4 := Aside0.mk (HM3.out.cell hg HCX3.out)
   have HM4 := Aside0.mk hM
   have HG4 := Aside0.mk (World.grownBy.trans HG3.out hg)
   clear HGI3 HBX3 HCX3 HM3 HG3 hM hg
   try clear k0 k1 kx
   go_wp2_with fail
   refine (block_gather_1.calls 0 bx b _ _ _ HBX4.out HM4.out (by decide) (by have := HN.out; simp only [maxLen] at *; omega)).mono ?_
   rintro e w14 ⟨rfl, hM, hg⟩
   have HGI5 := Aside0.mk (HM4.out.blk hg HGI4.out)
   have HBX5 := Aside0.mk (HM4.out.blk hg HBX4.out)
   have HCX5 := Aside0.mk (HM4.out.cell hg HCX4.out)
   have HM5 := Aside0.mk hM
   have HG5 := Aside0.mk (World.grownBy.trans HG4.out hg)
   clear HGI4 HBX4 HCX4 HM4 HG4 hM hg
   try clear k0 k1 kx
   go_wp2_with fail
   go_end0
   refine ⟨rfl, HM5.out.congr (by omega) (fun z => ?_), HG5.out⟩
   rw [Bool.eq_iff_iff]
   simp
   try grind
 | false =>
  have k0 := (blk_cell HGI1.out 0).trans rfl
  have k1 := (blk_cell HGI1.out 1).trans rfl
  have kx := HCX1.out
  go_wp2_with fail
  refine (isa_Ends.calls k (rd l0_0 i) en _ H2.out).mono ?_
  rintro e w21 ⟨rfl, hb⟩
  have HGI2 := Aside0.mk ((hb.block _ (blk_lt HGI1.out)).trans HGI1.out)
  have HBX2 := Aside0.mk ((hb.block _ (blk_lt HBX1.out)).trans HBX1.out)
  have HCX2 := Aside0.mk (pw_cell_below hb HCX1.out)
  have HM2 := Aside0.mk (HM1.out.below hb)
  have HG2 := Aside0.mk (World.grownBy.trans HG1.out (grown_of_below hb (some b)))
  clear k0 k1 kx hb HGI1 HBX1 HCX1 HM1 HG1
  cases en with
  | true =>
   go_wp2_with fail
   refine (block_gather_1.calls (i + 1) bx b _ _ _ HBX2.out HM2.out (WalkArith.wf_i64 (by omega)) (by have := HN.out; simp only [maxLen] at *; omega)).mono ?_
   rintro e w12 ⟨rfl, hM, hg⟩
   have HGI3 := Aside0.mk (HM2.out.blk hg HGI2.out)
   have HBX3 := Aside0.mk (HM2.out.blk hg HBX2.out)
   have HCX3 := Aside0.mk (HM2.out.cell hg HCX2.out)
   have HM3 := Aside0.mk hM
   have HG3 := Aside0.mk (World.grownBy.trans HG2.out hg)
   clear HGI2 HBX2 HCX2 HM2 HG2 hM hg
   try clear k0 k1 kx
   have k0 := (blk_cell HGI3.out 0).trans rfl
   have k1 := (blk_cell HGI3.out 1).trans rfl
   have kx := HCX3.out
   go_wp2_with fail
   refine (block_gather_1.calls a0_1 bx b _ _ _ HBX3.out HM3.out HW.out.2 (by have := HN.out; simp only [maxLen] at *; omega)).mono ?_
   rintro e w13 ⟨rfl, hM, hg⟩
   have HGI4 := Aside0.mk (HM3.out.blk hg HGI3.out)
   have HBX4 := Aside0.mk (HM3.out.blk hg HBX3.out)
   have HCX4 := Aside0.mk (HM3.out.cell hg HCX3.out)
   have HM4 := Aside0.mk hM
   have HG4 := Aside0.mk (World.grownBy.trans HG3.out hg)
   clear HGI3 HBX3 HCX3 HM3 HG3 hM hg
   try clear k0 k1 kx
   go_wp2_with fail
   refine (block_gather_1.calls 0 bx b _ _ _ HBX4.out HM4.out (by decide) (by have := HN.out; simp only [maxLen] at *; omega)).mono ?_
   rintro e w14 ⟨rfl, hM, hg⟩
   have HGI5 := Aside0.mk (HM4.out.blk hg HGI4.out)
   have HBX5 := Aside0.mk (HM4.out.blk hg HBX4.out)
   have HCX5 := Aside0.mk (HM4.out.cell hg HCX4.out)
   have HM5 := Aside0.mk hM
   have HG5 := Aside0.mk (World.grownBy.trans HG4.out hg)
   clear HGI4 HBX4 HCX4 HM4 HG4 hM hg
   try clear k0 k1 kx
   go_wp2_with fail
   go_end0
   refine ⟨rfl, HM5.out.congr (by omega) (fun z => ?_), HG5.out⟩
   rw [Bool.eq_iff_iff]
   simp
   try grind
  | false =>
   have k0 := (blk_cell HGI2.out 0).trans rfl
   have k1 := (blk_cell HGI2.out 1).trans rfl
   have kx := HCX2.out
   go_wp2_with fail
   refine (block_gather_1.calls a0_1 bx b _ _ _ HBX2.out HM2.out HW.out.2 (by have := HN.out; simp only [maxLen] at *; omega)).mono ?_
   rintro e w12 ⟨rfl, hM, hg⟩
   have HGI3 := Aside0.mk (HM2.out.blk hg HGI2.out)
   have HBX3 := Aside0.mk (HM2.out.blk hg HBX2.out)
   have HCX3 := Aside0.mk (HM2.out.cell hg HCX2.out)
   have HM3 := Aside0.mk hM
   have HG3 := Aside0.mk (World.grownBy.trans HG2.out hg)
   clear HGI2 HBX2 HCX2 HM2 HG2 hM hg
   try clear k0 k1 kx
   go_wp2_with fail
   refine (block_gather_1.calls 0 bx b _ _ _ HBX3.out HM3.out (by decide) (by have := HN.out; simp only [maxLen] at *; omega)).mono ?_
   rintro e w13 ⟨rfl, hM, hg⟩
   have HGI4 := Aside0.mk (HM3.out.blk hg HGI3.out)
   have HBX4 := Aside0.mk (HM3.out.blk hg HBX3.out)
   have HCX4 := Aside0.mk (HM3.out.cell hg HCX3.out)
   have HM4 := Aside0.mk hM
   have HG4 := Aside0.mk (World.grownBy.trans HG3.out hg)
   clear HGI3 HBX3 HCX3 HM3 HG3 hM hg
   try clear k0 k1 kx
   go_wp2_with fail
   go_end0
   refine ⟨rfl, HM4.out.congr (by omega) (fun z => ?_), HG4.out⟩
   rw [Bool.eq_iff_iff]
   simp
   try grind

/-! ### block_Blocks: function 27 -/
-- IMPORTS Derived.LoopN Derived.Shelf.Abstract
-- CALLS pleat/block.Blocks$1
-- CALLS pleat/block.gather
def block_Blocks.of (l : List Int) (n : Int) (j : Nat) : List S68 := (List.range j).map fun i : Nat => ⟨rd l (i : Int), if i + 1 < l.length then rd l ((i : Int) + 1) else n⟩
def block_Blocks.f (k : Nat) (l0_0 : List Int) (a0_1 : Int) (l0_2 : List Int) : Option ((List S68) × Int) :=
 (image_Check.f k l0_0 a0_1 l0_2).bind fun c => if c.1 = 0 then (if l0_0.length ≤ 16384 then (block_gather.marks k (block_Blocks.mk k a0_1) l0_0 0).bind fun ms => some (block_Blocks.of (block_gather.places l0_0.length ms) l0_0.length (block_gather.places l0_0.length ms).length, 0) else none) else some ([], c.1)
theorem block_gather.marks_mono {mk : Nat → Int → Int → (Int × Int × Int × Int × Int) → Option (List Int)} (h : ∀ k i x d, LeO (mk k i x d) (mk (k + 1) i x d)) (l : List Int) : ∀ k i, LeO (block_gather.marks k (mk k) l i) (block_gather.marks (k + 1) (mk (k + 1)) l i) := by
 induction l with
 | nil => intro k i; exact LeO.refl _
 | cons x l ih => intro k i; exact LeO.bind (isa_Decode.mono x k) (fun d => LeO.bind (h k i x d) (fun ms => LeO.bind (ih k (i + 1)) (fun _ => LeO.refl _)))
theorem block_Blocks.mk_mono (a0_1 : Int) : ∀ k i x d, LeO (block_Blocks.mk k a0_1 i x d) (block_Blocks.mk (k + 1) a0_1 i x d) := fun k i x d => LeO.bind (isa_Target.mono x k) (fun _ => LeO.bind (isa_Ends.mono x k) (fun _ => LeO.refl _))
theorem block_Blocks.mono : ∀ a0 a1 a2 k, LeO (block_Blocks.f k a0 a1 a2) (block_Blocks.f (k + 1) a0 a1 a2) := by
 intro a0 a1 a2 k
 refine LeO.bind (image_Check.mono _ _ _ _) (fun c => LeO.ite (LeO.ite (LeO.bind (block_gather.marks_mono (mk := fun k => block_Blocks.mk k a1) (block_Blocks.mk_mono a1) a0 k 0) (fun _ => LeO.refl _)) (LeO.refl _)) (LeO.refl _))
theorem block_Blocks.of_snoc (l : List Int) (n : Int) (j : Nat) : block_Blocks.of l n (j + 1) = block_Blocks.of l n j ++ [⟨rd l (j : Int), if j + 1 < l.length then rd l ((j : Int) + 1) else n⟩] := by
 simp [block_Blocks.of, List.range_succ]
set_option maxHeartbeats 8000000 in
set_option maxRecDepth 100000 in
theorem block_Blocks.calls (k : Nat) (A0_0 : Option Addr) (c0_0 : Nat) (l0_0 : List Int) (a0_1 : Int) (A0_2 : Option Addr) (c0_2 : Nat) (l0_2 : List Int) (r1 : List S68) (r2 : Int) (w : World) (hr0_0 : Kd.C (Kd.int .u32) w A0_0 l0_0.length l0_0) (hc0_0 : l0_0.length ≤ c0_0) (hr0_2 : Kd.C (Kd.int .i64) w A0_2 l0_2.length l0_2) (hc0_2 : l0_2.length ≤ c0_2) (h : block_Blocks.f k l0_0 a0_1 l0_2 = some (r1, r2)) :
  Calls Try.prog 27 #[.agg #[.slice A0_0 l0_0.length c0_0, .int .i64 a0_1, .slice A0_2 l0_2.length c0_2]] w fun e w' => ∃ v0_ : Value, e = .returned (.tuple #[v0_, .int .i64 r2]) ∧ Kd.R k68 68 w' w.heap.size (fun _ => True) v0_ r1 ∧ Below w.heap.size w w' := by
 obtain ⟨⟨e0, p⟩, h1, h⟩ := Option.bind_eq_some_iff.1 h
 have HR0_0 := Aside0.mk hr0_0
 have HC0_0 := Aside0.mk hc0_0
 have HR0_2 := Aside0.mk hr0_2
 have HC0_2 := Aside0.mk hc0_2
 have H1 := Aside0.mk h1
 clear hr0_0 hc0_0 hr0_2 hc0_2 h1
 have hmf : ∀ (fn : Fn) (first cap : Array Value) (w : World), (Instr.makeFunc fn first cap).run Try.prog w = .ok (.func fn first cap) w := fun _ _ _ _ => rfl
 by_cases he : e0 = 0
 case neg =>
  have HE := Aside0.mk he
  simp only [if_neg he, Option.some.injEq, Prod.mk.injEq] at h
  obtain ⟨rfl, rfl⟩ := h
  clear he
  go_enter Try.func27, Try.ntmps27
  go_wp2_with fail
  refine (block_gather.callsE _ _ k A0_0 c0_0 l0_0 a0_1 A0_2 c0_2 l0_2 p e0 _ (Kd.C_alloc HR0_0.out _) HC0_0.out (Kd.C_alloc HR0_2.out _) HC0_2.out H1.out HE.out).mono ?_
  rintro e w1 ⟨rfl, hb⟩
  have HB := Aside0.mk (below_then (below_alloc (Below.refl w.heap.size w) _) (by simp) hb)
  clear hb
  go_wp2_with fail
  refine wp_loop_rounds 1 ?_
  rw [rounds_succ]
  go_wp2_with fail
  go_ret2
  exact ⟨_, rfl, Kd.R_nil _ _ _ _ _, HB.out⟩
 case pos =>
  subst he
  simp only [if_true] at h
  by_cases hlen : l0_0.length ≤ 16384
  case neg => rw [if_neg hlen] at h; cases h
  rw [if_pos hlen] at h
  obtain ⟨ms, h2, h⟩ := Option.bind_eq_some_iff.1 h
  simp only [Option.some.injEq, Prod.mk.injEq] at h
  obtain ⟨hr1, rfl⟩ := h
  have HR1 := Aside0.mk hr1
  have H2 := Aside0.mk h2
  have hpl := block_gather.places_len ms l0_0.length
  clear hr1 h2
  go_enter Try.func27, Try.ntmps27
  go_wp2_with fail
  refine (block_gather.calls 45 #[.pointer (some ⟨w.heap.size, 0, none⟩)] (block_Blocks.mk k a0_1) k A0_0 c0_0 l0_0 a0_1 A0_2 c0_2 l0_2 p ms _ (Kd.C_alloc HR0_0.out _) HC0_0.out (Kd.C_alloc HR0_2.out _) HC0_2.out H1.out hlen H2.out (enters_of Try.func45 (by kernel_rfl) rfl) ?hm).mono ?_
  case hm =>
   intro i x d0 d1 d2 d3 d4 c W bx b n f hi0 hi1 hx hmk hB hbx hM hn hb
   exact block_Blocks_1.calls k A0_0 c0_0 l0_0 a0_1 (.slice A0_2 l0_2.length c0_2) w.heap.size i x d0 d1 d2 d3 d4 c W bx b n f hi0 hi1 hx hmk ((hB.block _ (by simp)).trans (heap_alloc_new w _)) (Kd.C_below (Kd.C_alloc HR0_0.out _) hB) hlen hbx hM hn
  rintro e w1 ⟨v, rfl, hL, hb⟩
  obtain ⟨AL, cL, rfl, hcL, hC⟩ := Kd.R_reads hL
  have HB := Aside0.mk (below_then (below_alloc (Below.refl w.heap.size w) _) (by simp) hb)
  have HC := Aside0.mk hC
  have HG := Aside0.mk ((hb.block w.heap.size (by simp)).trans (heap_alloc_new w _))
  clear hb hC hL
  go_wp2_with fail
  generalize hL : block_gather.places l0_0.length ms = L at HC hcL hpl HR1
  try rw [hL]
  go_loopw [18, 6] (fun v u wr => ∃ (i : Nat), v = .int .i64 i ∧ i ≤ L.length ∧ Aside0 (Kd.R k68 68 wr w1.heap.size (fun _ => True) u (block_Blocks.of L l0_0.length i)) ∧ Aside0 (Below w1.heap.size w1 wr)) (fun v _ _ => L.length - (intOf v).toNat)
  case atStart => exact ⟨0, rfl, Nat.zero_le _, ⟨Kd.R_nil _ _ _ _ _⟩, ⟨Below.refl _ _⟩⟩
  case round =>
   obtain ⟨i, rfl, hi, HO, HB1⟩ := hrel
   by_cases hlt : i < L.length
   ·obtain ⟨ad, e1, hc1⟩ := Kd.at_int (Kd.C_below HC.out HB1.out) i (by omega) (by omega)
    cases e1
    rw [Int.toNat_natCast] at hc1
    have HGr := (HB1.out.block _ (blk_lt HG.out)).trans HG.out
    have k0 := (blk_cell HGr 0).trans rfl
    clear HGr
    by_cases hlt2 : i + 1 < L.length
    ·obtain ⟨ad2, e2, hc2⟩ := Kd.at_int (Kd.C_below HC.out HB1.out) ((i : Int) + 1) (by omega) (by omega)
     injection e2 with e2
     subst e2
     rw [show ((i : Int) + 1).toNat = i + 1 by omega, show ad.add (i + 1) = ⟨ad.block, ad.off + (i + 1), none⟩ by simp [Addr.add]] at hc2
     have HS := Aside0.mk ((block_Blocks.of_snoc L l0_0.length i).trans (by rw [if_pos hlt2]))
     go_wp2_with (first | ((with_reducible refine gate_builtin (b := .append) (xs := #[.tmp 36, .tmp 40]) rfl ?_); at_builtin; refine Kd.R_append k68 (w0 := w1) w1.heap.size rfl (.tmp 36) (.tmp 40) 44 68 (.agg #[(.int .i64 0), (.int .i64 0)]) 16 rfl Try.underlying44 info68 rfl (by decide) (by omega) _ (block_Blocks.of L l0_0.length i) ⟨rd L (i : Int), rd L ((i : Int) + 1)⟩ [.int .i64 (rd L (i : Int)), .int .i64 (rd L ((i : Int) + 1))] (fun _ => True) (fun _ => False) rfl rfl (k68_mkM _ _ _ _) (fun _ hk => hk.elim) (fun _ _ => trivial) HO.out HB1.out HB1.out.size (by simp only [block_Blocks.of, List.length_map, List.length_range]; omega) ?_; intro v1 wz ho hb hg hat; rw [← HS.out] at ho; have HO1 := Aside0.mk ho; have HB2 := Aside0.mk hb; clear ho hb hg hat HO HB1))
     go_roundw
     case rel => exact ⟨i + 1, by go_num, hlt, HO1, HB2⟩
     case measure => simp [intOf]; omega
    ·have HS := Aside0.mk ((block_Blocks.of_snoc L l0_0.length i).trans (by rw [if_neg hlt2]))
     go_wp2_with (first | ((with_reducible refine gate_builtin (b := .append) (xs := #[.tmp 36, .tmp 40]) rfl ?_); at_builtin; refine Kd.R_append k68 (w0 := w1) w1.heap.size rfl (.tmp 36) (.tmp 40) 44 68 (.agg #[(.int .i64 0), (.int .i64 0)]) 16 rfl Try.underlying44 info68 rfl (by decide) (by omega) _ (block_Blocks.of L l0_0.length i) ⟨rd L (i : Int), (l0_0.length : Int)⟩ [.int .i64 (rd L (i : Int)), .int .i64 ((l0_0.length : Int))] (fun _ => True) (fun _ => False) rfl rfl (k68_mkM _ _ _ _) (fun _ hk => hk.elim) (fun _ _ => trivial) HO.out HB1.out HB1.out.size (by simp only [block_Blocks.of, List.length_map, List.length_range]; omega) ?_; intro v1 wz ho hb hg hat; rw [← HS.out] at ho; have HO1 := Aside0.mk ho; have HB2 := Aside0.mk hb; clear ho hb hg hat HO HB1))
     go_roundw
     case rel => exact ⟨i + 1, by go_num, hlt, HO1, HB2⟩
     case measure => simp [intOf]; omega
   ·go_wp2_with fail
    go_ret2
    obtain rfl : i = L.length := by omega
    exact ⟨_, rfl, by rw [← HR1.out]; exact Kd.R_lower HO.out HB.out.size, below_then HB.out HB.out.size HB1.out⟩

/-! ### touch_Reads: function 29 -/
-- IMPORTS Derived.LoopN
-- CALLS pleat/isa.Decode
-- CALLS (pleat/touch.word).reads
def touch_Reads.f (k : Nat) (a0 : Int) : Option (Int) := (isa_Decode.f k a0).bind fun t => (touch_word_reads.f t.1 t.2.1 t.2.2.1 t.2.2.2.1 t.2.2.2.2).bind fun r => some (Go.bits .or .u16 0 r)
theorem touch_Reads.mono : ∀ a0 k, LeO (touch_Reads.f k a0) (touch_Reads.f (k + 1) a0) := fun a0 k => LeO.bind (isa_Decode.mono a0 k) (fun _ => LeO.refl _)
set_option maxHeartbeats 8000000 in
set_option maxRecDepth 100000 in
theorem touch_Reads.calls (k : Nat) (a0 : Int) (r : Int) (w : World) (h : touch_Reads.f k a0 = some r) :
  Calls Try.prog 29 #[.int .u32 a0] w fun e w' => e = .returned (.int .u16 r) ∧ Below w.heap.size w w' := by
 obtain ⟨⟨x0, x1, x2, x3, x4⟩, h1, h2⟩ := Option.bind_eq_some_iff.1 h
 obtain ⟨y, h3, h4⟩ := Option.bind_eq_some_iff.1 h2
 obtain rfl := Option.some.inj h4
 have H1 := Aside0.mk h1
 have H3 := Aside0.mk h3
 clear h h1 h2 h3 h4
 have hmf : ∀ (fn : Fn) (first cap : Array Value) (w : World), (Instr.makeFunc fn first cap).run Try.prog w = .ok (.func fn first cap) w := fun _ _ _ _ => rfl
 have HB := Aside0.mk (Below.refl w.heap.size w)
 go_enter Try.func29, Try.ntmps29
 go_wp2_with fail
 refine (isa_Decode.calls k a0 _ _ _ _ _ _ H1.out).mono ?_
 rintro e w1 ⟨rfl, hb⟩
 have HB1 := Aside0.mk hb
 clear HB hb
 go_wp2
 refine wp_loop_rounds 2 ?_
 rw [rounds_succ]
 go_wp2_with fail
 refine (touch_word_reads.calls x0 x1 x2 x3 x4 y _ H3.out).mono ?_
 rintro e w2 ⟨rfl, hb⟩
 have HB2 := Aside0.mk (below_then HB1.out HB1.out.size (below_then (below_alloc (Below.refl _ _) _) (by simp) hb))
 clear HB1 hb
 go_wp2
 rw [rounds_succ]
 go_wp2
 go_ret
 exact ⟨rfl, HB2.out⟩

/-! ### touch_Writes: function 30 -/
-- IMPORTS Derived.LoopN
-- CALLS pleat/isa.Decode
-- CALLS (pleat/touch.word).writes
def touch_Writes.f (k : Nat) (a0 : Int) : Option (Int) := (isa_Decode.f k a0).bind fun t => (touch_word_writes.f t.1 t.2.1 t.2.2.1 t.2.2.2.1 t.2.2.2.2).bind fun r => some (Go.bits .or .u16 0 r)
theorem touch_Writes.mono : ∀ a0 k, LeO (touch_Writes.f k a0) (touch_Writes.f (k + 1) a0) := fun a0 k => LeO.bind (isa_Decode.mono a0 k) (fun _ => LeO.refl _)
set_option maxHeartbeats 8000000 in
set_option maxRecDepth 100000 in
theorem touch_Writes.calls (k : Nat) (a0 : Int) (r : Int) (w : World) (h : touch_Writes.f k a0 = some r) :
  Calls Try.prog 30 #[.int .u32 a0] w fun e w' => e = .returned (.int .u16 r) ∧ Below w.heap.size w w' := by
 obtain ⟨⟨x0, x1, x2, x3, x4⟩, h1, h2⟩ := Option.bind_eq_some_iff.1 h
 obtain ⟨y, h3, h4⟩ := Option.bind_eq_some_iff.1 h2
 obtain rfl := Option.some.inj h4
 have H1 := Aside0.mk h1
 have H3 := Aside0.mk h3
 clear h h1 h2 h3 h4
 have hmf : ∀ (fn : Fn) (first cap : Array Value) (w : World), (Instr.makeFunc fn first cap).run Try.prog w = .ok (.func fn first cap) w := fun _ _ _ _ => rfl
 have HB := Aside0.mk (Below.refl w.heap.size w)
 go_enter Try.func30, Try.ntmps30
 go_wp2_with fail
 refine (isa_Decode.calls k a0 _ _ _ _ _ _ H1.out).mono ?_
 rintro e w1 ⟨rfl, hb⟩
 have HB1 := Aside0.mk hb
 clear HB hb
 go_wp2
 refine wp_loop_rounds 2 ?_
 rw [rounds_succ]
 go_wp2_with fail
 refine (touch_word_writes.calls x0 x1 x2 x3 x4 y _ H3.out).mono ?_
 rintro e w2 ⟨rfl, hb⟩
 have HB2 := Aside0.mk (below_then HB1.out HB1.out.size (below_then (below_alloc (Below.refl _ _) _) (by simp) hb))
 clear HB1 hb
 go_wp2
 rw [rounds_succ]
 go_wp2
 go_ret
 exact ⟨rfl, HB2.out⟩

-- NOT PRINTED: function 57 (block_Taken_1)

/-! ### block_Taken: function 53 -/
-- IMPORTS Derived.Shelf.Abstract
-- CALLS pleat/block.gather
-- CALLS pleat/block.gather$1
-- CALLS pleat/block.Blocks$1
-- CALLS pleat/block.Taken$1
def block_Taken.mk (i x : Int) (d : Int × Int × Int × Int × Int) : Option (List Int) := if d.1 = 20 then (if (Lit.int .i64 d.2.2.2.2).wf = true then some [d.2.2.2.2] else none) else some []
theorem block_Taken.marks_mono (l : List Int) : ∀ k i, LeO (block_gather.marks k block_Taken.mk l i) (block_gather.marks (k + 1) block_Taken.mk l i) := by
 induction l with
 | nil => intro k i; exact LeO.refl _
 | cons x l ih => intro k i; exact LeO.bind (isa_Decode.mono x k) (fun d => LeO.bind (LeO.refl _) (fun ms => LeO.bind (ih k (i + 1)) (fun _ => LeO.refl _)))
set_option maxHeartbeats 8000000 in
set_option maxRecDepth 100000 in
theorem block_Taken_1.calls (i x d0 d1 d2 d3 d4 : Int) (c : List Int) (w : World) (bx b n : Nat) (f : Int → Bool) (hi0 : 0 ≤ i) (hi1 : i < 16384) (hmk : block_Taken.mk i x (d0, d1, d2, d3, d4) = some c) (hbx : w.heap[bx]? = some (.cells #[.map (some b)] 91 (0, 0))) (hM : BMap Try.prog 3 4 w b n f) (hn : n + 4 ≤ maxLen) :
  Calls Try.prog 57 #[.int .i64 i, .agg #[.int .i8 d0, .int .i8 d1, .int .i8 d2, .int .i8 d3, .int .i64 d4], .func (.func 49) #[] #[.pointer (some ⟨bx, 0, none⟩)]] w fun e w' => e = .returned (.tuple #[]) ∧ BMap Try.prog 3 4 w' b (n + 4) (fun z => f z || decide (z ∈ c)) ∧ w.grownBy w' (some b) := by
 have HBX := Aside0.mk hbx
 have HM := Aside0.mk hM
 have HN := Aside0.mk hn
 clear hbx hM hn
 unfold block_Taken.mk at hmk
 by_cases t0 : d0 = 20
 case pos =>
  rw [if_pos (by simp [t0])] at hmk
  have HW := Aside0.mk hmk
  clear hmk
  have f0 : (d0 == 20) = true := beq_iff_eq.mpr t0
  clear t0
  go_enter Try.func57, Try.ntmps57
  go_wp2_with fail
  refine (block_gather_1.calls d4 bx b n f _ (blk_alloc HBX.out _) (BMap.below HM.out (below_alloc (Below.refl _ _) _)) (by have := HW.out; split at this <;> first | assumption | cases this) (by have := HN.out; omega)).mono ?_
  rintro e w1 ⟨rfl, hM, hg⟩
  have HM1 := Aside0.mk hM
  have HG1 := Aside0.mk (World.grownBy.trans (grown_of_below (below_alloc (Below.refl w.heap.size w) _) (some b)) hg)
  clear hM hg
  go_wp2_with fail
  go_end0
  refine ⟨rfl, HM1.out.congr (by omega) (fun z => ?_), HG1.out⟩
  have hc := HW.out
  obtain rfl : c = [d4] := by (split at hc <;> first | exact (Option.some.inj hc).symm | cases hc)
  rw [Bool.eq_iff_iff]
  simp
  try grind
 case neg =>
 replace t0 := t0
 rw [if_neg (by simp [t0])] at hmk
 obtain rfl := Option.some.inj hmk
 have g0 : (d0 == 20) = false := beq_eq_false_iff_ne.mpr t0
 clear t0
 go_enter Try.func57, Try.ntmps57
 go_wp2_with fail
 go_end0
 exact ⟨rfl, (BMap.below HM.out (below_alloc (Below.refl _ _) _)).congr (by omega) (fun z => by simp), grown_of_below (below_alloc (Below.refl w.heap.size w) _) (some b)⟩
def block_Taken.f (k : Nat) (l0_0 : List Int) (a0_1 : Int) (l0_2 : List Int) : Option (List Int × Int) :=
 (image_Check.f k l0_0 a0_1 l0_2).bind fun c => if c.1 = 0 then (if l0_0.length ≤ 16384 then (block_gather.marks k block_Taken.mk l0_0 0).bind fun ms => some (block_gather.places l0_0.length ms, 0) else none) else some ([], c.1)
theorem block_Taken.mono : ∀ a0 a1 a2 k, LeO (block_Taken.f k a0 a1 a2) (block_Taken.f (k + 1) a0 a1 a2) := by
 intro a0 a1 a2 k
 refine LeO.bind (image_Check.mono _ _ _ _) (fun c => LeO.ite (LeO.ite (LeO.bind (block_Taken.marks_mono  a0 k 0) (fun _ => LeO.refl _)) (LeO.refl _)) (LeO.refl _))
set_option maxHeartbeats 8000000 in
set_option maxRecDepth 100000 in
theorem block_Taken.calls (k : Nat) (A0_0 : Option Addr) (c0_0 : Nat) (l0_0 : List Int) (a0_1 : Int) (A0_2 : Option Addr) (c0_2 : Nat) (l0_2 : List Int) (r1 : List Int) (r2 : Int) (w : World) (hr0_0 : Kd.C (Kd.int .u32) w A0_0 l0_0.length l0_0) (hc0_0 : l0_0.length ≤ c0_0) (hr0_2 : Kd.C (Kd.int .i64) w A0_2 l0_2.length l0_2) (hc0_2 : l0_2.length ≤ c0_2) (h : block_Taken.f k l0_0 a0_1 l0_2 = some (r1, r2)) :
  Calls Try.prog 53 #[.agg #[.slice A0_0 l0_0.length c0_0, .int .i64 a0_1, .slice A0_2 l0_2.length c0_2]] w fun e w' => ∃ v0_ : Value, e = .returned (.tuple #[v0_, .int .i64 r2]) ∧ Kd.R (Kd.int .i64) 3 w' w.heap.size (fun _ => True) v0_ r1 ∧ Below w.heap.size w w' := by
 obtain ⟨⟨e0, p⟩, h1, h⟩ := Option.bind_eq_some_iff.1 h
 have HR0_0 := Aside0.mk hr0_0
 have HC0_0 := Aside0.mk hc0_0
 have HR0_2 := Aside0.mk hr0_2
 have HC0_2 := Aside0.mk hc0_2
 have H1 := Aside0.mk h1
 clear hr0_0 hc0_0 hr0_2 hc0_2 h1
 have hmf : ∀ (fn : Fn) (first cap : Array Value) (w : World), (Instr.makeFunc fn first cap).run Try.prog w = .ok (.func fn first cap) w := fun _ _ _ _ => rfl
 by_cases he : e0 = 0
 case neg =>
  have HE := Aside0.mk he
  simp only [if_neg he, Option.some.injEq, Prod.mk.injEq] at h
  obtain ⟨rfl, rfl⟩ := h
  clear he
  go_enter Try.func53, Try.ntmps53
  go_wp2_with fail
  refine (block_gather.callsE _ _ k A0_0 c0_0 l0_0 a0_1 A0_2 c0_2 l0_2 p e0 _ (Kd.C_alloc HR0_0.out _) HC0_0.out (Kd.C_alloc HR0_2.out _) HC0_2.out H1.out HE.out).mono ?_
  rintro e w1 ⟨rfl, hb⟩
  have HB := Aside0.mk (below_then (below_alloc (Below.refl w.heap.size w) _) (by simp) hb)
  clear hb
  go_wp2_with fail
  go_ret2
  exact ⟨_, rfl, Kd.R_nil _ _ _ _ _, HB.out⟩
 case pos =>
  subst he
  simp only [if_true] at h
  by_cases hlen : l0_0.length ≤ 16384
  case neg => rw [if_neg hlen] at h; cases h
  rw [if_pos hlen] at h
  obtain ⟨ms, h2, h⟩ := Option.bind_eq_some_iff.1 h
  simp only [Option.some.injEq, Prod.mk.injEq] at h
  obtain ⟨hr1, rfl⟩ := h
  have HR1 := Aside0.mk hr1
  have H2 := Aside0.mk h2
  clear hr1 h2 h
  go_enter Try.func53, Try.ntmps53
  go_wp2_with fail
  refine (block_gather.calls 57 #[] block_Taken.mk k A0_0 c0_0 l0_0 a0_1 A0_2 c0_2 l0_2 p ms _ (Kd.C_alloc HR0_0.out _) HC0_0.out (Kd.C_alloc HR0_2.out _) HC0_2.out H1.out hlen H2.out (enters_of Try.func57 (by kernel_rfl) rfl) ?hm).mono ?_
  case hm =>
   intro i x d0 d1 d2 d3 d4 c W bx b n f hi0 hi1 hx hmk hB hbx hM hn hb
   exact block_Taken_1.calls i x d0 d1 d2 d3 d4 c W bx b n f hi0 (by omega) hmk hbx hM hn
  rintro e w1 ⟨v, rfl, hL, hb⟩
  have HB := Aside0.mk (below_then (below_alloc (Below.refl w.heap.size w) _) (by simp) hb)
  have HL := Aside0.mk (Kd.R_lower hL (show w.heap.size ≤ (w.alloc _).heap.size by simp))
  clear hb hL
  go_wp2_with fail
  go_ret2
  exact ⟨_, rfl, by rw [← HR1.out]; exact HL.out, HB.out⟩

-- NOT PRINTED: function 58 (block_Sites_1)

/-! ### block_Sites: function 54 -/
-- IMPORTS Derived.Shelf.Abstract
-- CALLS pleat/block.gather
-- CALLS pleat/block.gather$1
-- CALLS pleat/block.Blocks$1
-- CALLS pleat/block.Sites$1
def block_Sites.mk (i x : Int) (d : Int × Int × Int × Int × Int) : Option (List Int) := if d.1 = 17 ∨ d.1 = 18 then some [i + 1] else some []
theorem block_Sites.marks_mono (l : List Int) : ∀ k i, LeO (block_gather.marks k block_Sites.mk l i) (block_gather.marks (k + 1) block_Sites.mk l i) := by
 induction l with
 | nil => intro k i; exact LeO.refl _
 | cons x l ih => intro k i; exact LeO.bind (isa_Decode.mono x k) (fun d => LeO.bind (LeO.refl _) (fun ms => LeO.bind (ih k (i + 1)) (fun _ => LeO.refl _)))
set_option maxHeartbeats 8000000 in
set_option maxRecDepth 100000 in
theorem block_Sites_1.calls (i x d0 d1 d2 d3 d4 : Int) (c : List Int) (w : World) (bx b n : Nat) (f : Int → Bool) (hi0 : 0 ≤ i) (hi1 : i < 16384) (hmk : block_Sites.mk i x (d0, d1, d2, d3, d4) = some c) (hbx : w.heap[bx]? = some (.cells #[.map (some b)] 91 (0, 0))) (hM : BMap Try.prog 3 4 w b n f) (hn : n + 4 ≤ maxLen) :
  Calls Try.prog 58 #[.int .i64 i, .agg #[.int .i8 d0, .int .i8 d1, .int .i8 d2, .int .i8 d3, .int .i64 d4], .func (.func 49) #[] #[.pointer (some ⟨bx, 0, none⟩)]] w fun e w' => e = .returned (.tuple #[]) ∧ BMap Try.prog 3 4 w' b (n + 4) (fun z => f z || decide (z ∈ c)) ∧ w.grownBy w' (some b) := by
 have HBX := Aside0.mk hbx
 have HM := Aside0.mk hM
 have HN := Aside0.mk hn
 clear hbx hM hn
 unfold block_Sites.mk at hmk
 by_cases t0 : d0 = 17
 case pos =>
  rw [if_pos (by simp [t0])] at hmk
  have HW := Aside0.mk hmk
  clear hmk
  have f0 : (d0 == 17) = true := beq_iff_eq.mpr t0
  clear t0
  go_enter Try.func58, Try.ntmps58
  go_wp2_with fail
  refine (block_gather_1.calls (i + 1) bx b n f _ (blk_alloc HBX.out _) (BMap.below HM.out (below_alloc (Below.refl _ _) _)) (WalkArith.wf_i64 (by omega)) (by have := HN.out; omega)).mono ?_
  rintro e w1 ⟨rfl, hM, hg⟩
  have HM1 := Aside0.mk hM
  have HG1 := Aside0.mk (World.grownBy.trans (grown_of_below (below_alloc (Below.refl w.heap.size w) _) (some b)) hg)
  clear hM hg
  go_wp2_with fail
  go_end0
  refine ⟨rfl, HM1.out.congr (by omega) (fun z => ?_), HG1.out⟩
  have hc := HW.out
  obtain rfl := Option.some.inj hc
  rw [Bool.eq_iff_iff]
  simp
  try grind
 case neg =>
 replace t0 := t0
 by_cases t1 : d0 = 18
 case pos =>
  rw [if_pos (by simp [t1])] at hmk
  have HW := Aside0.mk hmk
  clear hmk
  have f0 : (d0 == 17) = false := beq_eq_false_iff_ne.mpr t0
  have f1 : (d0 == 18) = true := beq_iff_eq.mpr t1
  clear t1
  go_enter Try.func58, Try.ntmps58
  go_wp2_with fail
  refine (block_gather_1.calls (i + 1) bx b n f _ (blk_alloc HBX.out _) (BMap.below HM.out (below_alloc (Below.refl _ _) _)) (WalkArith.wf_i64 (by omega)) (by have := HN.out; omega)).mono ?_
  rintro e w1 ⟨rfl, hM, hg⟩
  have HM1 := Aside0.mk hM
  have HG1 := Aside0.mk (World.grownBy.trans (grown_of_below (below_alloc (Below.refl w.heap.size w) _) (some b)) hg)
  clear hM hg
  go_wp2_with fail
  go_end0
  refine ⟨rfl, HM1.out.congr (by omega) (fun z => ?_), HG1.out⟩
  have hc := HW.out
  obtain rfl := Option.some.inj hc
  rw [Bool.eq_iff_iff]
  simp
  try grind
 case neg =>
 replace t1 := t1
 rw [if_neg (by simp [t0, t1])] at hmk
 obtain rfl := Option.some.inj hmk
 have g0 : (d0 == 17) = false := beq_eq_false_iff_ne.mpr t0
 have g1 : (d0 == 18) = false := beq_eq_false_iff_ne.mpr t1
 clear t0 t1
 go_enter Try.func58, Try.ntmps58
 go_wp2_with fail
 go_end0
 exact ⟨rfl, (BMap.below HM.out (below_alloc (Below.refl _ _) _)).congr (by omega) (fun z => by simp), grown_of_below (below_alloc (Below.refl w.heap.size w) _) (some b)⟩
def block_Sites.f (k : Nat) (l0_0 : List Int) (a0_1 : Int) (l0_2 : List Int) : Option (List Int × Int) :=
 (image_Check.f k l0_0 a0_1 l0_2).bind fun c => if c.1 = 0 then (if l0_0.length ≤ 16384 then (block_gather.marks k block_Sites.mk l0_0 0).bind fun ms => some (block_gather.places l0_0.length ms, 0) else none) else some ([], c.1)
theorem block_Sites.mono : ∀ a0 a1 a2 k, LeO (block_Sites.f k a0 a1 a2) (block_Sites.f (k + 1) a0 a1 a2) := by
 intro a0 a1 a2 k
 refine LeO.bind (image_Check.mono _ _ _ _) (fun c => LeO.ite (LeO.ite (LeO.bind (block_Sites.marks_mono  a0 k 0) (fun _ => LeO.refl _)) (LeO.refl _)) (LeO.refl _))
set_option maxHeartbeats 8000000 in
set_option maxRecDepth 100000 in
theorem block_Sites.calls (k : Nat) (A0_0 : Option Addr) (c0_0 : Nat) (l0_0 : List Int) (a0_1 : Int) (A0_2 : Option Addr) (c0_2 : Nat) (l0_2 : List Int) (r1 : List Int) (r2 : Int) (w : World) (hr0_0 : Kd.C (Kd.int .u32) w A0_0 l0_0.length l0_0) (hc0_0 : l0_0.length ≤ c0_0) (hr0_2 : Kd.C (Kd.int .i64) w A0_2 l0_2.length l0_2) (hc0_2 : l0_2.length ≤ c0_2) (h : block_Sites.f k l0_0 a0_1 l0_2 = some (r1, r2)) :
  Calls Try.prog 54 #[.agg #[.slice A0_0 l0_0.length c0_0, .int .i64 a0_1, .slice A0_2 l0_2.length c0_2]] w fun e w' => ∃ v0_ : Value, e = .returned (.tuple #[v0_, .int .i64 r2]) ∧ Kd.R (Kd.int .i64) 3 w' w.heap.size (fun _ => True) v0_ r1 ∧ Below w.heap.size w w' := by
 obtain ⟨⟨e0, p⟩, h1, h⟩ := Option.bind_eq_some_iff.1 h
 have HR0_0 := Aside0.mk hr0_0
 have HC0_0 := Aside0.mk hc0_0
 have HR0_2 := Aside0.mk hr0_2
 have HC0_2 := Aside0.mk hc0_2
 have H1 := Aside0.mk h1
 clear hr0_0 hc0_0 hr0_2 hc0_2 h1
 have hmf : ∀ (fn : Fn) (first cap : Array Value) (w : World), (Instr.makeFunc fn first cap).run Try.prog w = .ok (.func fn first cap) w := fun _ _ _ _ => rfl
 by_cases he : e0 = 0
 case neg =>
  have HE := Aside0.mk he
  simp only [if_neg he, Option.some.injEq, Prod.mk.injEq] at h
  obtain ⟨rfl, rfl⟩ := h
  clear he
  go_enter Try.func54, Try.ntmps54
  go_wp2_with fail
  refine (block_gather.callsE _ _ k A0_0 c0_0 l0_0 a0_1 A0_2 c0_2 l0_2 p e0 _ (Kd.C_alloc HR0_0.out _) HC0_0.out (Kd.C_alloc HR0_2.out _) HC0_2.out H1.out HE.out).mono ?_
  rintro e w1 ⟨rfl, hb⟩
  have HB := Aside0.mk (below_then (below_alloc (Below.refl w.heap.size w) _) (by simp) hb)
  clear hb
  go_wp2_with fail
  go_ret2
  exact ⟨_, rfl, Kd.R_nil _ _ _ _ _, HB.out⟩
 case pos =>
  subst he
  simp only [if_true] at h
  by_cases hlen : l0_0.length ≤ 16384
  case neg => rw [if_neg hlen] at h; cases h
  rw [if_pos hlen] at h
  obtain ⟨ms, h2, h⟩ := Option.bind_eq_some_iff.1 h
  simp only [Option.some.injEq, Prod.mk.injEq] at h
  obtain ⟨hr1, rfl⟩ := h
  have HR1 := Aside0.mk hr1
  have H2 := Aside0.mk h2
  clear hr1 h2 h
  go_enter Try.func54, Try.ntmps54
  go_wp2_with fail
  refine (block_gather.calls 58 #[] block_Sites.mk k A0_0 c0_0 l0_0 a0_1 A0_2 c0_2 l0_2 p ms _ (Kd.C_alloc HR0_0.out _) HC0_0.out (Kd.C_alloc HR0_2.out _) HC0_2.out H1.out hlen H2.out (enters_of Try.func58 (by kernel_rfl) rfl) ?hm).mono ?_
  case hm =>
   intro i x d0 d1 d2 d3 d4 c W bx b n f hi0 hi1 hx hmk hB hbx hM hn hb
   exact block_Sites_1.calls i x d0 d1 d2 d3 d4 c W bx b n f hi0 (by omega) hmk hbx hM hn
  rintro e w1 ⟨v, rfl, hL, hb⟩
  have HB := Aside0.mk (below_then (below_alloc (Below.refl w.heap.size w) _) (by simp) hb)
  have HL := Aside0.mk (Kd.R_lower hL (show w.heap.size ≤ (w.alloc _).heap.size by simp))
  clear hb hL
  go_wp2_with fail
  go_ret2
  exact ⟨_, rfl, by rw [← HR1.out]; exact HL.out, HB.out⟩

/-! ### edge_rising: function 55 -/
mutual
def edge_rising.l0 : Nat → Int → List Bool → List Int → Int → Int → Option (List Int)
 | 0, _, _, _, _, _ => none
 | k + 1, x1, x5, x13, x14, x15 => if x15 < x14 then (if 0 ≤ x15 then (if x15 < (x13.length : Int) then (if (rd x13 x15) ≥ 0 then (if (rd x13 x15) < x1 then (if 0 ≤ (rd x13 x15) then (if (rd x13 x15) < (x5.length : Int) then (edge_rising.l0 k x1 (x5.set ((rd x13 x15) : Int).toNat true) x13 x14 (wrap64 (x15 + 1))) else (none)) else (none)) else (edge_rising.l0 k x1 x5 x13 x14 (wrap64 (x15 + 1)))) else (edge_rising.l0 k x1 x5 x13 x14 (wrap64 (x15 + 1)))) else (none)) else (none)) else (edge_rising.l1 k ([] : List Int) x5 (x5.length : Int) 0)
def edge_rising.l1 : Nat → List Int → List Bool → Int → Int → Option (List Int)
 | 0, _, _, _, _ => none
 | k + 1, x8, x30, x31, x32 => if x32 < x31 then (if 0 ≤ x32 then (if x32 < (x30.length : Int) then (if rdOf false x30 x32 = true then (if x8.length < 17592186044416 then (edge_rising.l1 k (x8 ++ [x32]) x30 x31 (wrap64 (x32 + 1))) else (none)) else (edge_rising.l1 k x8 x30 x31 (wrap64 (x32 + 1)))) else (none)) else (none)) else (some x8)
end
def edge_rising.f (k : Nat) (l0 : List Int) (a1 : Int) : Option (List Int) := if 0 ≤ a1 then (if (a1 : Int).toNat ≤ 281474976710656 then (edge_rising.l0 k a1 (List.replicate (a1 : Int).toNat false) l0 (l0.length : Int) 0) else (none)) else (none)
theorem edge_rising.mono_l : ∀ k, (∀ y0 y1 y2 y3 y4, LeO (edge_rising.l0 k y0 y1 y2 y3 y4) (edge_rising.l0 (k + 1) y0 y1 y2 y3 y4)) ∧ (∀ y0 y1 y2 y3, LeO (edge_rising.l1 k y0 y1 y2 y3) (edge_rising.l1 (k + 1) y0 y1 y2 y3))
 | 0 => ⟨fun _ _ _ _ _ r h => by simp [edge_rising.l0] at h, fun _ _ _ _ r h => by simp [edge_rising.l1] at h⟩
 | k + 1 => by
  obtain ⟨ih0, ih1⟩ := edge_rising.mono_l k
  refine ⟨?_, ?_⟩
  ·intro y0 y1 y2 y3 y4
   unfold edge_rising.l0
   repeat' first
   | (with_reducible exact ih0 _ _ _ _ _)
   | (with_reducible exact ih1 _ _ _ _)
   | (with_reducible exact LeO.refl _)
   | (with_reducible exact LeO.none _)
   | (with_reducible refine LeO.ite ?_ ?_)
   | (with_reducible refine LeO.bind ?_ (fun _ => ?_))
   | exact ih0 _ _ _ _ _
   | exact ih1 _ _ _ _
   | exact LeO.none _
   | refine LeO.ite ?_ ?_
   | refine LeO.bind ?_ (fun _ => ?_)
  ·intro y0 y1 y2 y3
   unfold edge_rising.l1
   repeat' first
   | (with_reducible exact ih0 _ _ _ _ _)
   | (with_reducible exact ih1 _ _ _ _)
   | (with_reducible exact LeO.refl _)
   | (with_reducible exact LeO.none _)
   | (with_reducible refine LeO.ite ?_ ?_)
   | (with_reducible refine LeO.bind ?_ (fun _ => ?_))
   | exact ih0 _ _ _ _ _
   | exact ih1 _ _ _ _
   | exact LeO.none _
   | refine LeO.ite ?_ ?_
   | refine LeO.bind ?_ (fun _ => ?_)
theorem edge_rising.mono : ∀ a0 a1 k, LeO (edge_rising.f k a0 a1) (edge_rising.f (k + 1) a0 a1) := by
 intro a0 a1 k
 obtain ⟨ih0, ih1⟩ := edge_rising.mono_l k
 unfold edge_rising.f
 repeat' first
   | (with_reducible exact ih0 _ _ _ _ _)
   | (with_reducible exact ih1 _ _ _ _)
   | (with_reducible exact LeO.refl _)
   | (with_reducible exact LeO.none _)
   | (with_reducible refine LeO.ite ?_ ?_)
   | (with_reducible refine LeO.bind ?_ (fun _ => ?_))
   | exact ih0 _ _ _ _ _
   | exact ih1 _ _ _ _
   | exact LeO.none _
   | refine LeO.ite ?_ ?_
   | refine LeO.bind ?_ (fun _ => ?_)
set_option maxHeartbeats 8000000 in
set_option maxRecDepth 100000 in
theorem edge_rising.calls (k : Nat) (A0 : Option Addr) (c0 : Nat) (l0 : List Int) (a1 : Int) (r : List Int) (w : World) (hr0 : Kd.C (Kd.int .i64) w A0 l0.length l0) (hc0 : l0.length ≤ c0) (h : edge_rising.f k l0 a1 = some r) :
  Calls Try.prog 55 #[.slice A0 l0.length c0, .int .i64 a1] w fun e w' => ∃ v0_ : Value, e = .returned (v0_) ∧ Kd.R (Kd.int .i64) 3 w' w.heap.size (fun _ => True) v0_ r ∧ Below w.heap.size w w' := by
 have HR0 := Aside0.mk hr0
 have HC0 := Aside0.mk hc0
 clear hr0 hc0
 have HB := Aside0.mk (Below.refl w.heap.size w)
 have H : (if 0 ≤ a1 then (if (a1 : Int).toNat ≤ 281474976710656 then (edge_rising.l0 k a1 (List.replicate (a1 : Int).toNat false) l0 (l0.length : Int) 0) else (none)) else (none)) = some r := h
 clear h
 by_cases c3 : 0 ≤ a1
 ·rw [if_pos c3] at H
  have c3b0 := eq_true c3
  have c3b1 : decide (0 ≤ a1) = true := decide_eq_true c3
  clear c3
  by_cases c4 : (a1 : Int).toNat ≤ 281474976710656
  ·rw [if_pos c4] at H
   have c4b0 := eq_true c4
   have c4b1 : decide ((a1 : Int).toNat ≤ 281474976710656) = true := decide_eq_true c4
   clear c4
   obtain ⟨y159, hy159⟩ : ∃ y_ : List Bool, y_ = (List.replicate (a1 : Int).toNat false) := ⟨_, rfl⟩
   replace H : (edge_rising.l0 k a1 y159 l0 (l0.length : Int) 0) = some r := by first | (rw [hy159]; with_reducible exact H) | (have H2_ := (Option.bind_some _ _).symm.trans H; rw [hy159]; with_reducible exact H2_) | (have H2_ := (Option.bind_some _ _).symm.trans H; with_reducible exact H2_) | with_reducible exact H | (rw [hy159]; exact H) | exact H
   have Ny159 := Aside0.mk hy159
   clear hy159
   have H' := Aside0.mk H
   clear H
   go_enter Try.func55, Try.ntmps55
   go_wp2_with (first | ((with_reducible refine gate_dst (N := 12) rfl ?_); refine Kd.R_make Kd.bool _ 4 rfl (N := 12) rfl 102 _ _ rfl a1 rfl rfl Try.underlying102 (.bool false) 1 info4 rfl (by decide) (by omega) false (ok := fun _ => True) (okp := fun _ => True) rfl (fun _ hk => hk) trivial (of_decide_eq_true (by first | (with_reducible assumption) | assumption)) (Nat.le_trans (Nat.mul_le_mul_right _ (of_decide_eq_true (by first | (with_reducible assumption) | assumption) : a1.toNat ≤ 281474976710656)) (by omega)) (Below.refl _ _) (Nat.le_refl _) ?_; intro v160 w5 ho6 hb hg_ hnew_; clear hg_ hnew_; (first | rw [← Ny159.out] at ho6 | (simp only [Int.reduceToNat] at ho6; rw [← Ny159.out] at ho6)); have n0_ := Aside0.mk (Kd.R_lower ho6 (below_size (by repeat (first | (with_reducible first | exact HB.out | apply below_alloc | apply pw_below_drewN | apply below_drew1) | exact HB.out)))); have n1_ := Aside0.mk (below_step (by repeat (first | (with_reducible first | exact HB.out | apply below_alloc | apply pw_below_drewN | apply below_drew1) | exact HB.out)) hb); clear HB; have HO161 := n0_; have HB := n1_; clear n0_ n1_; clear hb ho6))
   go_loopg [15] k (fun kq v15 w' => ∃ (x5_1 : List Bool) (x15_1 : Int), v15 = .int .i64 x15_1 ∧ Aside0 (edge_rising.l0 kq a1 x5_1 l0 (l0.length : Int) x15_1 = some r) ∧ Aside0 (kq ≤ k) ∧ Aside0 (Kd.R Kd.bool 4 w' w.heap.size (fun _ => True) v160 x5_1) ∧ Aside0 (Below w.heap.size w w'))
   case atStart => exact ⟨(y159), (0), (by first | rfl | (simp; done) | (simp [*]; done)), H', ⟨Nat.le_refl _⟩, ⟨by (with_reducible repeat (first | apply Kd.R_alloc | apply Kd.R_drewN | apply Kd.R_drew)); exact HO161.out⟩, ⟨by repeat (first | (with_reducible first | exact HB.out | apply below_alloc | apply pw_below_drewN | apply below_drew1) | exact HB.out)⟩⟩
   case round =>
    clear H'
    try clear p2
    try clear c3
    try clear c3b0
    try clear c3b1
    try clear c4
    try clear c4b0
    try clear c4b1
    try clear c5
    obtain ⟨x5_1, x15_1, rfl, HA, HK1, HO_5, HB⟩ := hrel
    cases gk with
    | zero => exact absurd HA.out (by simp [edge_rising.l0])
    | succ k1 =>
     have H := HA.out
     clear HA
     simp only [edge_rising.l0] at H
     by_cases c7 : x15_1 < (l0.length : Int)
     ·rw [if_pos c7] at H
      have c7b0 : decide (x15_1 < (l0.length : Int)) = true := decide_eq_true c7
      clear c7
      by_cases c8 : 0 ≤ x15_1
      ·rw [if_pos c8] at H
       have c8b0 : decide (0 ≤ x15_1) = true := decide_eq_true c8
       clear c8
       by_cases c9 : x15_1 < (l0.length : Int)
       ·rw [if_pos c9] at H
        have c9b0 : decide (x15_1 < (l0.length : Int)) = true := decide_eq_true c9
        clear c9
        by_cases c10 : (rd l0 x15_1) ≥ 0
        ·rw [if_pos c10] at H
         have c10b0 : decide (0 ≤ (rd l0 x15_1)) = true := decide_eq_true c10
         clear c10
         by_cases c11 : (rd l0 x15_1) < a1
         ·rw [if_pos c11] at H
          have c11b0 : decide ((rd l0 x15_1) < a1) = true := decide_eq_true c11
          clear c11
          by_cases c12 : 0 ≤ (rd l0 x15_1)
          ·rw [if_pos c12] at H
           have c12b0 : decide (0 ≤ (rd l0 x15_1)) = true := decide_eq_true c12
           clear c12
           by_cases c13 : (rd l0 x15_1) < (x5_1.length : Int)
           ·rw [if_pos c13] at H
            have c13b0 : decide ((rd l0 x15_1) < (x5_1.length : Int)) = true := decide_eq_true c13
            clear c13
            obtain ⟨y163, hy163⟩ : ∃ y_ : List Bool, y_ = (x5_1.set ((rd l0 x15_1) : Int).toNat true) := ⟨_, rfl⟩
            replace H : (edge_rising.l0 k1 a1 y163 l0 (l0.length : Int) (wrap64 (x15_1 + 1))) = some r := by first | (rw [hy163]; with_reducible exact H) | (have H2_ := (Option.bind_some _ _).symm.trans H; rw [hy163]; with_reducible exact H2_) | (have H2_ := (Option.bind_some _ _).symm.trans H; with_reducible exact H2_) | with_reducible exact H | (rw [hy163]; exact H) | exact H
            have Ny163 := Aside0.mk hy163
            clear hy163
            have H' := Aside0.mk H
            clear H
            have p162 : 0 ≤ (x15_1 : Int) := of_decide_eq_true (by first | (with_reducible assumption) | assumption)
            have q162 : x15_1 < (l0.length : Int) := of_decide_eq_true (by first | (with_reducible assumption) | assumption)
            obtain ⟨ad162, e162, hx162_0⟩ := Kd.at_int HR0.out x15_1 p162 q162
            cases e162
            replace hx162_0 := (HB.out.cell (World.block_lt_of_cell? w _ hx162_0)).trans hx162_0
            replace p162 := eq_true p162
            replace q162 := eq_true q162
            have p14 : 0 ≤ ((rd l0 x15_1) : Int) := of_decide_eq_true (by first | (with_reducible assumption) | assumption)
            have q14 : ((rd l0 x15_1) : Int) < ((x5_1.length : Int) : Int) := of_decide_eq_true (by first | (with_reducible assumption) | assumption)
            obtain ⟨go14, co14, eo14, gb14, gl14, cl14, HG14⟩ := Kd.R_form HO_5.out (by omega)
            (first | cases eo14 | (injection eo14 with ea_ en_ ec_; (first | subst ea_ | (injection ea_ with ea_; subst ea_)); subst ec_; clear en_))
            have GB14 := Aside0.mk gb14
            have GG14 := Aside0.mk HG14
            clear gb14 gl14 HG14
            obtain ⟨hx14_0, hf14_0⟩ := Kd.R_celln false HO_5.out ((rd l0 x15_1) : Int) p14 q14
            replace p14 := eq_true p14
            replace q14 := eq_true q14
            have HP15 := Kd.R_putg HO_5.out ((rd l0 x15_1) : Int) true
            go_wp2_with (first | ((with_reducible refine gate_store (t := 4) (p := 28) rfl ?_); refine store_event (t := 4) (p := 28) (v := ?vo_w16) (w1 := (wr.setCell ⟨go14, ((rd l0 x15_1) : Int).toNat, none⟩ (.bool true))) ?hg ?ho ?hn ?hr ?_; (case ho => rfl); (case hg => rfl); (case hn => rfl); (case hr => first | (go_simp; done) | (go_simp; rfl)); intro w16 hw; have hg : wr.grownBy w16 (some go14) := (by rw [hw]; exact HP15.2); have hp_ : Kd.R Kd.bool 4 w16 w.heap.size (fun _ => True) (.slice (some ⟨go14, 0, none⟩) x5_1.length co14) y163 := (by rw [hw, Ny163.out]; exact HP15.1); clear HP15; have n0_ := Aside0.mk (hp_); have n1_ := Aside0.mk ((by rw [hw]; exact below_set (HB.out) GB14.out : Below w.heap.size w w16)); clear HO_5; clear HB; have HO_5 := n0_; have HB := n1_; clear n0_ n1_; clear hg hw hp_))
            go_roundg k1
            case measure => have := HK1.out; omega
            case rel => exact ⟨(y163), (wrap64 (x15_1 + 1)), (by first | rfl | (simp; done) | (simp [*]; done)), H', ⟨by have := HK1.out; omega⟩, ⟨by (with_reducible repeat (first | apply Kd.R_alloc | apply Kd.R_drewN | apply Kd.R_drew)); exact HO_5.out⟩, ⟨by repeat (first | (with_reducible first | exact HB.out | apply below_alloc | apply pw_below_drewN | apply below_drew1) | exact HB.out)⟩⟩
           ·rw [if_neg c13] at H
            exact absurd H (by simp)
          ·rw [if_neg c12] at H
           exact absurd H (by simp)
         ·rw [if_neg c11] at H
          have c11b0 : decide ((rd l0 x15_1) < a1) = false := decide_eq_false c11
          clear c11
          have H' := Aside0.mk H
          clear H
          have p162 : 0 ≤ (x15_1 : Int) := of_decide_eq_true (by first | (with_reducible assumption) | assumption)
          have q162 : x15_1 < (l0.length : Int) := of_decide_eq_true (by first | (with_reducible assumption) | assumption)
          obtain ⟨ad162, e162, hx162_0⟩ := Kd.at_int HR0.out x15_1 p162 q162
          cases e162
          replace hx162_0 := (HB.out.cell (World.block_lt_of_cell? w _ hx162_0)).trans hx162_0
          replace p162 := eq_true p162
          replace q162 := eq_true q162
          go_wp2
          go_roundg k1
          case measure => have := HK1.out; omega
          case rel => exact ⟨(x5_1), (wrap64 (x15_1 + 1)), (by first | rfl | (simp; done) | (simp [*]; done)), H', ⟨by have := HK1.out; omega⟩, ⟨by (with_reducible repeat (first | apply Kd.R_alloc | apply Kd.R_drewN | apply Kd.R_drew)); exact HO_5.out⟩, ⟨by repeat (first | (with_reducible first | exact HB.out | apply below_alloc | apply pw_below_drewN | apply below_drew1) | exact HB.out)⟩⟩
        ·rw [if_neg c10] at H
         have c10b0 : decide (0 ≤ (rd l0 x15_1)) = false := decide_eq_false c10
         clear c10
         have H' := Aside0.mk H
         clear H
         have p162 : 0 ≤ (x15_1 : Int) := of_decide_eq_true (by first | (with_reducible assumption) | assumption)
         have q162 : x15_1 < (l0.length : Int) := of_decide_eq_true (by first | (with_reducible assumption) | assumption)
         obtain ⟨ad162, e162, hx162_0⟩ := Kd.at_int HR0.out x15_1 p162 q162
         cases e162
         replace hx162_0 := (HB.out.cell (World.block_lt_of_cell? w _ hx162_0)).trans hx162_0
         replace p162 := eq_true p162
         replace q162 := eq_true q162
         go_wp2
         go_roundg k1
         case measure => have := HK1.out; omega
         case rel => exact ⟨(x5_1), (wrap64 (x15_1 + 1)), (by first | rfl | (simp; done) | (simp [*]; done)), H', ⟨by have := HK1.out; omega⟩, ⟨by (with_reducible repeat (first | apply Kd.R_alloc | apply Kd.R_drewN | apply Kd.R_drew)); exact HO_5.out⟩, ⟨by repeat (first | (with_reducible first | exact HB.out | apply below_alloc | apply pw_below_drewN | apply below_drew1) | exact HB.out)⟩⟩
       ·rw [if_neg c9] at H
        exact absurd H (by simp)
      ·rw [if_neg c8] at H
       exact absurd H (by simp)
     ·rw [if_neg c7] at H
      have c7b0 : decide (x15_1 < (l0.length : Int)) = false := decide_eq_false c7
      clear c7
      have H' := Aside0.mk H
      clear H
      obtain ⟨Ao17, co17, eo17⟩ := Kd.R_slice HO_5.out
      subst eo17
      go_wp2
      go_loopg [8, 32] k1 (fun kq v8 v32 w' => ∃ (x8_2 : List Int) (x32_2 : Int), v32 = .int .i64 x32_2 ∧ Aside0 (edge_rising.l1 kq x8_2 x5_1 (x5_1.length : Int) x32_2 = some r) ∧ Aside0 (kq ≤ k1) ∧ Aside0 (Kd.R (Kd.int .i64) 3 w' w.heap.size (fun _ => True) v8 x8_2) ∧ Aside0 (Kd.R Kd.bool 4 w' w.heap.size (fun _ => True) (.slice Ao17 x5_1.length co17) x5_1) ∧ Aside0 (Below w.heap.size w w'))
      case atStart => exact ⟨(([] : List Int)), (0), (by first | rfl | (simp; done) | (simp [*]; done)), H', ⟨Nat.le_refl _⟩, ⟨by first | exact Kd.R_nil _ _ _ _ _ | exact Kd.N_nil _ _ _ _ _ | exact Kd.V_nil _ _ _ _ _ | exact Kd.Q_nil _ _ _ _ _ | exact Kd.S_nil _ _ _ _ _⟩, ⟨by (with_reducible repeat (first | apply Kd.R_alloc | apply Kd.R_drewN | apply Kd.R_drew)); exact HO_5.out⟩, ⟨by repeat (first | (with_reducible first | exact HB.out | apply below_alloc | apply pw_below_drewN | apply below_drew1) | exact HB.out)⟩⟩
      case round =>
       clear H'
       try clear c1
       try clear p1
       try clear q1
       try clear hx1
       try clear p2
       try clear c3
       try clear c3b0
       try clear c3b1
       try clear c4
       try clear c4b0
       try clear c4b1
       try clear c5
       try clear p6
       try clear c7
       try clear c7b0
       try clear c8
       try clear c8b0
       try clear c9
       try clear c9b0
       try clear c10
       try clear c10b0
       try clear c11
       try clear c11b0
       try clear c12
       try clear c12b0
       try clear c13
       try clear c13b0
       try clear p14
       try clear q14
       try clear hx14
       try clear hf14
       try clear p16
       try clear q16
       try clear hx16
       try clear hx14_0
       try clear hx162_0
       try clear p14
       try clear p162
       try clear p2
       try clear q14
       try clear q162
       obtain ⟨x8_2, x32_2, rfl, HA, HK2, HO_8, HO_30, HB⟩ := hrel
       cases gk with
       | zero => exact absurd HA.out (by simp [edge_rising.l1])
       | succ k2 =>
        have H := HA.out
        clear HA
        simp only [edge_rising.l1] at H
        by_cases c18 : x32_2 < (x5_1.length : Int)
        ·rw [if_pos c18] at H
         have c18b0 : decide (x32_2 < (x5_1.length : Int)) = true := decide_eq_true c18
         clear c18
         by_cases c19 : 0 ≤ x32_2
         ·rw [if_pos c19] at H
          have c19b0 : decide (0 ≤ x32_2) = true := decide_eq_true c19
          clear c19
          by_cases c20 : x32_2 < (x5_1.length : Int)
          ·rw [if_pos c20] at H
           have c20b0 : decide (x32_2 < (x5_1.length : Int)) = true := decide_eq_true c20
           clear c20
           obtain ⟨bq21, hbq21⟩ : ∃ b_ : Bool, b_ = (rdOf false x5_1 x32_2) := ⟨_, rfl⟩
           replace H : (if bq21 = true then (if x8_2.length < 17592186044416 then (edge_rising.l1 k2 (x8_2 ++ [x32_2]) x5_1 (x5_1.length : Int) (wrap64 (x32_2 + 1))) else (none)) else (edge_rising.l1 k2 x8_2 x5_1 (x5_1.length : Int) (wrap64 (x32_2 + 1)))) = some r := by rw [← hbq21] at H; exact H
           have Nbq21 := Aside0.mk hbq21
           clear hbq21
           by_cases c22 : bq21 = true
           ·subst c22
            have H1 : (if x8_2.length < 17592186044416 then (edge_rising.l1 k2 (x8_2 ++ [x32_2]) x5_1 (x5_1.length : Int) (wrap64 (x32_2 + 1))) else (none)) = some r := by rw [if_pos rfl] at H; exact H
            clear H
            have H := H1
            clear H1
            by_cases c23 : x8_2.length < 17592186044416
            ·rw [if_pos c23] at H
             have LMc23 := Aside0.mk c23
             clear c23
             obtain ⟨y165, hy165⟩ : ∃ y_ : List Int, y_ = (x8_2 ++ [x32_2]) := ⟨_, rfl⟩
             replace H : (edge_rising.l1 k2 y165 x5_1 (x5_1.length : Int) (wrap64 (x32_2 + 1))) = some r := by first | (rw [hy165]; with_reducible exact H) | (have H2_ := (Option.bind_some _ _).symm.trans H; rw [hy165]; with_reducible exact H2_) | (have H2_ := (Option.bind_some _ _).symm.trans H; with_reducible exact H2_) | with_reducible exact H | (rw [hy165]; exact H) | exact H
             have Ny165 := Aside0.mk hy165
             clear hy165
             have H' := Aside0.mk H
             clear H
             have p164 : 0 ≤ (x32_2 : Int) := of_decide_eq_true (by first | (with_reducible assumption) | assumption)
             have q164 : x32_2 < (x5_1.length : Int) := of_decide_eq_true (by first | (with_reducible assumption) | assumption)
             obtain ⟨ad164, e164, hx164_0⟩ := Kd.at_bool (Kd.R_reads' HO_30.out).2.2 x32_2 p164 q164
             (try rw [← Nbq21.out] at hx164_0)
             cases e164
             replace p164 := eq_true p164
             replace q164 := eq_true q164
             go_wp2_with (first | ((with_reducible refine gate_builtin (b := .append) (xs := #[.tmp 38, .tmp 40]) rfl ?_); at_builtin; refine Kd.R_append (Kd.int .i64) (w0 := w) w.heap.size rfl (.tmp 38) (.tmp 40) 80 3 (.int .i64 0) 8 rfl Try.underlying80 info3 rfl (by decide) (by omega) u8 x8_2 x32_2 [.int .i64 x32_2] (fun _ => True) (fun _ => False) rfl rfl ?aP (fun _ hk => hk.elim) ?aF ?aO ?aB ?aS ?aL ?_; (case aP => exact rfl); (case aB => exact (by repeat (first | (with_reducible first | exact HB.out | apply below_alloc | apply pw_below_drewN | apply below_drew1) | exact HB.out))); (case aF => exact (fun _ _ => trivial)); (case aO => exact (by (with_reducible repeat (first | apply Kd.R_alloc | apply Kd.R_drewN | apply Kd.R_drew)); exact HO_8.out)); (case aS => exact (below_size (by repeat (first | (with_reducible first | exact HB.out | apply below_alloc | apply pw_below_drewN | apply below_drew1) | exact HB.out)))); (case aL => have := LMc23.out; omega); intro v166 w24 ho hb hg hat; rw [← Ny165.out] at ho; have n0_ := Aside0.mk (Kd.R_over' (by (with_reducible repeat (first | apply Kd.R_alloc | apply Kd.R_drewN | apply Kd.R_drew)); exact HO_30.out) (Kd.R_typed (by (with_reducible repeat (first | apply Kd.R_alloc | apply Kd.R_drewN | apply Kd.R_drew)); exact HO_8.out)) (by decide) hg); have n1_ := Aside0.mk (hb); have n2_ := Aside0.mk (ho); clear HO_30; clear HB; clear HO_8; have HO_30 := n0_; have HB := n1_; have HO167 := n2_; clear n0_ n1_ n2_; clear ho hb hg hat))
             go_roundg k2
             case measure => have := HK1.out; have := HK2.out; omega
             case rel => exact ⟨(y165), (wrap64 (x32_2 + 1)), (by first | rfl | (simp; done) | (simp [*]; done)), H', ⟨by have := HK1.out; have := HK2.out; omega⟩, ⟨by (with_reducible repeat (first | apply Kd.R_alloc | apply Kd.R_drewN | apply Kd.R_drew)); exact HO167.out⟩, ⟨by (with_reducible repeat (first | apply Kd.R_alloc | apply Kd.R_drewN | apply Kd.R_drew)); exact HO_30.out⟩, ⟨by repeat (first | (with_reducible first | exact HB.out | apply below_alloc | apply pw_below_drewN | apply below_drew1) | exact HB.out)⟩⟩
            ·rw [if_neg c23] at H
             exact absurd H (by simp)
           ·replace c22 := Bool.eq_false_iff.mpr c22
            subst c22
            have H1 : (edge_rising.l1 k2 x8_2 x5_1 (x5_1.length : Int) (wrap64 (x32_2 + 1))) = some r := by rw [if_neg (show ¬ (false = true) by decide)] at H; exact H
            clear H
            have H := H1
            clear H1
            have H' := Aside0.mk H
            clear H
            have p164 : 0 ≤ (x32_2 : Int) := of_decide_eq_true (by first | (with_reducible assumption) | assumption)
            have q164 : x32_2 < (x5_1.length : Int) := of_decide_eq_true (by first | (with_reducible assumption) | assumption)
            obtain ⟨ad164, e164, hx164_0⟩ := Kd.at_bool (Kd.R_reads' HO_30.out).2.2 x32_2 p164 q164
            (try rw [← Nbq21.out] at hx164_0)
            cases e164
            replace p164 := eq_true p164
            replace q164 := eq_true q164
            go_wp2
            go_roundg k2
            case measure => have := HK1.out; have := HK2.out; omega
            case rel => exact ⟨(x8_2), (wrap64 (x32_2 + 1)), (by first | rfl | (simp; done) | (simp [*]; done)), H', ⟨by have := HK1.out; have := HK2.out; omega⟩, ⟨by (with_reducible repeat (first | apply Kd.R_alloc | apply Kd.R_drewN | apply Kd.R_drew)); exact HO_8.out⟩, ⟨by (with_reducible repeat (first | apply Kd.R_alloc | apply Kd.R_drewN | apply Kd.R_drew)); exact HO_30.out⟩, ⟨by repeat (first | (with_reducible first | exact HB.out | apply below_alloc | apply pw_below_drewN | apply below_drew1) | exact HB.out)⟩⟩
          ·rw [if_neg c20] at H
           exact absurd H (by simp)
         ·rw [if_neg c19] at H
          exact absurd H (by simp)
        ·rw [if_neg c18] at H
         have c18b0 : decide (x32_2 < (x5_1.length : Int)) = false := decide_eq_false c18
         clear c18
         obtain rfl := Option.some.inj H
         go_wp2
         go_ret
         exact ⟨_, by first | rfl | (simp [errW_none, errW_some] <;> rfl) | (simp [*, errW_none, errW_some] <;> rfl), by (with_reducible repeat (first | apply Kd.R_alloc | apply Kd.R_drewN | apply Kd.R_drew)); exact HO_8.out, by repeat (first | (with_reducible first | exact HB.out | apply below_alloc | apply pw_below_drewN | apply below_drew1) | exact HB.out)⟩
  ·rw [if_neg c4] at H
   exact absurd H (by simp)
 ·rw [if_neg c3] at H
  exact absurd H (by simp)

/-! ### edge_numbers: function 56 -/
-- IMPORTS Derived.Maps.OwnSet Derived.Maps.OwnOps Derived.Maps.Views
-- a map[int]int of the call's own
def IMap (P : Program) (k e : TypeId) (w : World) (b n : Nat) (f : Int → Int) : Prop :=
 ∃ D : DataW Unit, w.ownsMap P k (plainElem P e) b n D ∧ ∀ x, (Lit.int .i64 x).wf = true → D.atKey (.int .i64 x) (.lit (.int .i64 0)) = .lit (.int .i64 (f x))
theorem IMap.made (P : Program) (k e : TypeId) (w : World) : IMap P k e (w.alloc (.map #[] 0)) w.heap.size 0 (fun _ => 0) := ⟨_, World.ownsMap_made w P k _, fun _ _ => rfl⟩
theorem IMap.kept {P : Program} {k e : TypeId} {w w' : World} {b n : Nat} {f : Int → Int} {row : Option Nat} (h : IMap P k e w b n f) (hg : w.grownBy w' row) (hne : some b ≠ row) : IMap P k e w' b n f := by
 obtain ⟨D, h1, h2⟩ := h
 exact ⟨D, h1.kept hg hne, h2⟩
theorem IMap.below {P : Program} {k e : TypeId} {w w' : World} {b n : Nat} {f : Int → Int} (h : IMap P k e w b n f) (hb : Below w.heap.size w w') : IMap P k e w' b n f := h.kept (grown_of_below hb none) (by simp)
theorem IMap.congr {P : Program} {k e : TypeId} {w : World} {b n n' : Nat} {f g : Int → Int} (h : IMap P k e w b n f) (hn : n ≤ n') (hf : ∀ x, f x = g x) : IMap P k e w b n' g := by
 obtain ⟨D, h1, h2⟩ := h
 exact ⟨D, h1.mono hn, fun x hx => by rw [h2 x hx, hf]⟩
theorem IMap.lookup {P : Program} {t k e : TypeId} {w : World} {b n : Nat} {f : Int → Int} (h : IMap P k e w b n f) (ht : P.underlying t = some (.map k e)) (hk : P.underlying k = some (.int .i64)) (he : P.underlying e = some (.int .i64))
  (hz : (zeroValue e).run P w = .ok (.int .i64 0) w) (x : Int) (hx : (Lit.int .i64 x).wf = true) : (Instr.lookup t (.map (some b)) (.int .i64 x) false).run P w = .ok (.int .i64 (f x)) w := by
 obtain ⟨D, h1, h2⟩ := h
 obtain ⟨c, hr, hv, _⟩ := h1.lookup_int (Maps.int_keyed hk) ht he hz (Maps.keyOf_int_mk hk hx)
 rw [h2 x hx] at hv
 rw [hr]
 injection hv with hv
 injection hv with _ hv
 rw [hv]
theorem IMap.update {P : Program} {t k e : TypeId} {w : World} {b n : Nat} {f : Int → Int} (h : IMap P k e w b n f) (ht : P.underlying t = some (.map k e)) (hk : P.underlying k = some (.int .i64)) (he : P.underlying e = some (.int .i64))
  (hn : n < maxLen) (x : Int) (hx : (Lit.int .i64 x).wf = true) (y : Int) (hy : (Lit.int .i64 y).wf = true) : ∃ w', (Instr.mapUpdate t (.map (some b)) (.int .i64 x) (.int .i64 y)).run P w = .ok () w' ∧ IMap P k e w' b (n + 1) (fun z => if z = x then y else f z) ∧ w.grownBy w' (some b) := by
 obtain ⟨D, h1, h2⟩ := h
 obtain ⟨w', hr, ho, hg⟩ := h1.update (Maps.int_keyed hk) ht hn (Maps.keyOf_int_mk hk hx) (plainElem_int he hy)
 refine ⟨w', hr, ⟨_, ho, fun z hz => ?_⟩, hg⟩
 by_cases e1 : z = x
 ·subst e1
  simp only [if_pos]
  exact Maps.atKey_put_same h1.isMap (by simp [WideAt.IsKeyLit]) _ _
 ·simp only [if_neg e1]
  rw [Maps.atKey_put_other (by intro h; injection h with _ h; exact e1 h), h2 z hz]
theorem edge_numbers.take_map (f : Int → Int) (l : List Int) (i : Nat) (h : i < l.length) : (l.map f).take (i + 1) = (l.map f).take i ++ [f (rd l (i : Int))] := by
 rw [List.take_succ_eq_append_getElem (by simpa using h)]
 simp [rd, List.getD_eq_getElem?_getD, h]
theorem edge_numbers.all_at {l : List Int} (h : l.all (fun x => (Lit.int .i64 x).wf) = true) (i : Nat) (hi : i < l.length) : (Lit.int .i64 (rd l (i : Int))).wf = true := by
 have := List.all_eq_true.1 h (l[i]) (List.getElem_mem hi)
 simpa [rd, List.getD_eq_getElem?_getD, hi] using this
set_option maxHeartbeats 8000000 in
set_option maxRecDepth 100000 in
theorem edge_numbers.calls (b n : Nat) (f : Int → Int) (A1 : Option Addr) (c1 : Nat) (l1 : List Int) (w : World) (hM : IMap Try.prog 3 3 w b n f) (hr1 : Kd.C (Kd.int .i64) w A1 l1.length l1) (hc1 : l1.length ≤ c1) (hl : l1.length ≤ 16384) (hall : l1.all (fun x => (Lit.int .i64 x).wf) = true) :
  Calls Try.prog 56 #[.map (some b), .slice A1 l1.length c1] w fun e w' => ∃ v0_ : Value, e = .returned v0_ ∧ Kd.R (Kd.int .i64) 3 w' w.heap.size (fun _ => True) v0_ (l1.map f) ∧ Below w.heap.size w w' := by
 have HR1 := Aside0.mk hr1
 have HM := Aside0.mk hM
 have HA := Aside0.mk hall
 clear hr1 hM hall
 go_enter Try.func56, Try.ntmps56
 go_wp2_with fail
 go_loopw [10, 5] (fun v u wr => ∃ (i : Nat), v = .int .i64 i ∧ i ≤ l1.length ∧ Aside0 (Kd.R (Kd.int .i64) 3 wr w.heap.size (fun _ => True) u ((l1.map f).take i)) ∧ Aside0 (Below w.heap.size w wr)) (fun v _ _ => l1.length - (intOf v).toNat)
 case atStart => exact ⟨0, rfl, Nat.zero_le _, ⟨Kd.R_nil _ _ _ _ _⟩, ⟨Below.refl _ _⟩⟩
 case round =>
  obtain ⟨i, rfl, hi, HO, HB1⟩ := hrel
  by_cases hlt : i < l1.length
  ·obtain ⟨ad, e1, hc⟩ := Kd.at_int (Kd.C_below HR1.out HB1.out) i (by omega) (by omega)
   cases e1
   rw [Int.toNat_natCast] at hc
   have HS := Aside0.mk (edge_numbers.take_map f l1 i hlt)
   have hl := (IMap.below HM.out HB1.out).lookup (t := 98) Try.underlying98 Try.underlying3 Try.underlying3 (Try.zeroValue3 _) _ (edge_numbers.all_at HA.out i hlt)
   go_wp2_with (first | ((with_reducible refine gate_builtin (b := .append) (xs := #[.tmp 14, .tmp 18]) rfl ?_); at_builtin; refine Kd.R_append (Kd.int .i64) (w0 := w) w.heap.size rfl (.tmp 14) (.tmp 18) 80 3 (.int .i64 0) 8 rfl Try.underlying80 info3 rfl (by decide) (by omega) _ ((l1.map f).take i) (f (rd l1 (i : Int))) [.int .i64 (f (rd l1 (i : Int)))] (fun _ => True) (fun _ => False) rfl rfl rfl (fun _ hk => hk.elim) (fun _ _ => trivial) HO.out HB1.out HB1.out.size (by rw [List.length_take]; omega) ?_; intro v1 wz ho hb hg hat; rw [← HS.out] at ho; have HO1 := Aside0.mk ho; have HB2 := Aside0.mk hb; clear ho hb hg hat HO HB1 hl hc))
   go_roundw
   case rel => exact ⟨i + 1, by go_num, hlt, HO1, HB2⟩
   case measure => simp [intOf]; omega
  ·go_wp2_with fail
   go_ret
   obtain rfl : i = l1.length := by omega
   exact ⟨_, rfl, by have := HO.out; rwa [List.take_of_length_le (by simp)] at this, HB1.out⟩

end Go.Proofs.Ytidcijicehgfkaa.PK
