-- Printed by this session's own program (wip/tools/hybrid.sh) over its own contracts
import Derived.Test.YtidcijicehgfkaaPKx0
import Derived.Test.YtidcijicehgfkaaPKx1
import Derived.Test.YtidcijicehgfkaaPKx3
import Derived.Carry
import Derived.Deep.RegionHeld3
import Derived.Maps.OwnSet
import Derived.Maps.Range
import Derived.Maps.RangeWalk
namespace Go.Proofs.Ytidcijicehgfkaa.PK
open Go.RowKit Go.Proofs.YtidcijicehgfkaaW.PrintWords Go.Proofs.YtidcijicehgfkaaW.PrintLast Go.Proofs.YtidcijicehgfkaaW.PrintMore
attribute [local go_sem] max2_int min2_int max_two min_two max_three min_three max_four min_four   -- for this text's walks alone
set_option linter.unusedVariables false
set_option linter.unusedSimpArgs false

/-! ### edge_Edges: function 50 -/
-- IMPORTS Derived.Carry
-- CALLS pleat/block.Blocks
-- CALLS pleat/block.Taken
-- CALLS pleat/block.Sites
-- CALLS pleat/edge.rising
-- CALLS pleat/edge.numbers
-- CALLS pleat/isa.Decode
-- what the map of the blocks' beginnings holds behind i blocks
def edge_Edges.begins (l : List S68) : Nat → Int → Int
 | 0 => fun _ => 0
 | i + 1 => fun x => if x = (rd_T68 l (i : Int)).f0 then (i : Int) else edge_Edges.begins l i x
def edge_Edges.to (k : Nat) (bg : Int → Int) (known : List Int) (n : Nat) (i : Int) (d : Int × Int × Int × Int × Int) : Option (List Int) :=
 if d.1 = -1 ∨ d.1 = 0 ∨ d.1 = 21 then some []
 else if d.1 = 15 ∨ d.1 = 17 then (if (Lit.int .i64 d.2.2.2.2).wf = true then some [bg d.2.2.2.2] else none)
 else if d.1 = 16 then (if (Lit.int .i64 d.2.2.2.2).wf = true then edge_rising.f k [bg d.2.2.2.2, i + 1] (n : Int) else none)
 else if d.1 = 18 ∨ d.1 = 19 then some known
 else some [i + 1]
def edge_Edges.all (k : Nat) (l0 : List Int) (bs : List S68) (bg : Int → Int) (known : List Int) (n : Nat) : List S68 → Int → Option (List (List Int))
 | [], _ => some []
 | b :: r, i => if 0 ≤ b.f1 - 1 ∧ b.f1 - 1 < l0.length then (isa_Decode.f k (rd l0 (b.f1 - 1))).bind fun d => (edge_Edges.to k bg known n i d).bind fun t => (edge_Edges.all k l0 bs bg known n r (i + 1)).bind fun q => some (t :: q) else none
def edge_Edges.f (k : Nat) (l0_0 : List Int) (a0_1 : Int) (l0_2 : List Int) : Option ((List (List Int)) × Int) :=
 (block_Blocks.f k l0_0 a0_1 l0_2).bind fun b => if b.2 = 0 then
  (block_Taken.f k l0_0 a0_1 l0_2).bind fun tk => (block_Sites.f k l0_0 a0_1 l0_2).bind fun st =>
   if b.1.length ≤ 16384 ∧ tk.1.length ≤ 16384 ∧ st.1.length ≤ 16384 ∧ tk.1.all (fun x => (Lit.int .i64 x).wf) = true ∧ st.1.all (fun x => (Lit.int .i64 x).wf) = true ∧ b.1.all (fun x => (Lit.int .i64 x.f0).wf) = true then
    (edge_rising.f k (tk.1.map (edge_Edges.begins b.1 b.1.length) ++ st.1.map (edge_Edges.begins b.1 b.1.length)) b.1.length).bind fun known =>
     if known.length ≤ 16384 then (edge_Edges.all k l0_0 b.1 (edge_Edges.begins b.1 b.1.length) known b.1.length b.1 0).bind fun q => some (q, 0) else none
   else none
  else some ([], b.2)
theorem edge_Edges.to_mono (bg : Int → Int) (known : List Int) (n : Nat) (i : Int) (d : Int × Int × Int × Int × Int) (k : Nat) : LeO (edge_Edges.to k bg known n i d) (edge_Edges.to (k + 1) bg known n i d) :=
 LeO.ite (LeO.refl _) (LeO.ite (LeO.refl _) (LeO.ite (LeO.ite (edge_rising.mono _ _ _) (LeO.refl _)) (LeO.refl _)))
theorem edge_Edges.all_mono (l0 : List Int) (bs : List S68) (bg : Int → Int) (known : List Int) (n : Nat) (k : Nat) (r : List S68) : ∀ i, LeO (edge_Edges.all k l0 bs bg known n r i) (edge_Edges.all (k + 1) l0 bs bg known n r i) := by
 induction r with
 | nil => intro i; exact LeO.refl _
 | cons b r ih => intro i; exact LeO.ite (LeO.bind (isa_Decode.mono _ k) (fun d => LeO.bind (edge_Edges.to_mono _ _ _ _ _ k) (fun t => LeO.bind (ih (i + 1)) (fun _ => LeO.refl _)))) (LeO.refl _)
theorem edge_Edges.mono : ∀ a0 a1 a2 k, LeO (edge_Edges.f k a0 a1 a2) (edge_Edges.f (k + 1) a0 a1 a2) := by
 intro a0 a1 a2 k
 refine LeO.bind (block_Blocks.mono _ _ _ _) (fun b => LeO.ite (LeO.bind (block_Taken.mono _ _ _ _) (fun tk => LeO.bind (block_Sites.mono _ _ _ _) (fun st => LeO.ite (LeO.bind (edge_rising.mono _ _ _) (fun known => LeO.ite (LeO.bind (edge_Edges.all_mono _ _ _ _ _ k _ 0) (fun _ => LeO.refl _)) (LeO.refl _))) (LeO.refl _)))) (LeO.refl _))
theorem edge_Edges.all_at (k : Nat) (l0 : List Int) (bs : List S68) (bg : Int → Int) (known : List Int) (n : Nat) (r : List S68) : ∀ (i : Int) (q : List (List Int)), edge_Edges.all k l0 bs bg known n r i = some q → q.length = r.length ∧ ∀ j : Nat, j < r.length →
  ∃ d t, (0 ≤ (rd_T68 r (j : Int)).f1 - 1 ∧ (rd_T68 r (j : Int)).f1 - 1 < l0.length) ∧ isa_Decode.f k (rd l0 ((rd_T68 r (j : Int)).f1 - 1)) = some d ∧ edge_Edges.to k bg known n (i + j) d = some t ∧ q.take (j + 1) = q.take j ++ [t] := by
 induction r with
 | nil => intro i q h; simp [edge_Edges.all] at h; subst h; exact ⟨rfl, fun j hj => by simp at hj⟩
 | cons b r ih =>
  intro i q h
  rw [edge_Edges.all] at h
  by_cases hb : 0 ≤ b.f1 - 1 ∧ b.f1 - 1 < l0.length
  case neg => rw [if_neg hb] at h; cases h
  rw [if_pos hb] at h
  obtain ⟨d, hd, h⟩ := Option.bind_eq_some_iff.1 h
  obtain ⟨t, ht, h⟩ := Option.bind_eq_some_iff.1 h
  obtain ⟨q', hq, h⟩ := Option.bind_eq_some_iff.1 h
  obtain rfl := Option.some.inj h
  obtain ⟨hl, hj⟩ := ih (i + 1) q' hq
  refine ⟨by simp [hl], fun j hlt => ?_⟩
  cases j with
  | zero => exact ⟨d, t, by simpa [rd_T68] using hb, by simpa [rd_T68] using hd, by simpa using ht, by simp⟩
  | succ j =>
   obtain ⟨d', t', h1, h2, h3, h4⟩ := hj j (by simpa using hlt)
   refine ⟨d', t', by simpa [rd_T68] using h1, by simpa [rd_T68] using h2, ?_, ?_⟩
   ·rw [show i + ((j + 1 : Nat) : Int) = i + 1 + (j : Int) by push_cast; omega]; exact h3
   ·simp [h4]
theorem R_ints_lit (W : World) (base e : Nat) (k : IntKind) (xs : List Int) (hb : base ≤ W.heap.size) (hm : xs.length ≤ 9223372036854775807) :
  (Kd.int k).R e (W.alloc (.cells (xs.map (Value.int k)).toArray e)) base (fun _ => True) (.slice (some ⟨W.heap.size, 0, none⟩) xs.length xs.length) xs :=
 ⟨fun _ _ => trivial, OwnRow.lit W base (Kd.reps_scalar xs) hb hm⟩
theorem Kd.S_lt2 {α : Type} {d : Kd α} {e : Nat} {w : World} {base : Nat} {ok : Nat → Prop} {u v : Value} {xs : List α} (h : Kd.S d e w base (fun k => ok k ∧ some k ≠ v.ownBlock) u xs) (k : Nat) (hk : u.ownBlock = some k) : some k ≠ v.ownBlock := by
 obtain ⟨f, h⟩ := h
 exact (h.1 k hk).2
theorem edge_Edges.wf_at {l : List S68} (h : l.all (fun x => (Lit.int .i64 x.f0).wf) = true) (i : Nat) (hi : i < l.length) : (Lit.int .i64 (rd_T68 l (i : Int)).f0).wf = true := by
 have := List.all_eq_true.1 h (l[i]) (List.getElem_mem hi)
 simpa [rd_T68, List.getD_eq_getElem?_getD, hi] using this
set_option maxHeartbeats 8000000 in
set_option maxRecDepth 100000 in
theorem edge_Edges.calls (k : Nat) (A0_0 : Option Addr) (c0_0 : Nat) (l0_0 : List Int) (a0_1 : Int) (A0_2 : Option Addr) (c0_2 : Nat) (l0_2 : List Int) (r1 : List (List Int)) (r2 : Int) (w : World) (hr0_0 : Kd.C (Kd.int .u32) w A0_0 l0_0.length l0_0) (hc0_0 : l0_0.length ≤ c0_0) (hr0_2 : Kd.C (Kd.int .i64) w A0_2 l0_2.length l0_2) (hc0_2 : l0_2.length ≤ c0_2) (h : edge_Edges.f k l0_0 a0_1 l0_2 = some (r1, r2)) :
  Calls Try.prog 50 #[.agg #[.slice A0_0 l0_0.length c0_0, .int .i64 a0_1, .slice A0_2 l0_2.length c0_2]] w fun e w' => ∃ v0_ : Value, e = .returned (.tuple #[v0_, .int .i64 r2]) ∧ Kd.S (Kd.slice 3 (Kd.int .i64)) 80 w' w.heap.size (fun _ => True) v0_ r1 ∧ Below w.heap.size w w' := by
 obtain ⟨⟨bs, e0⟩, h1, h⟩ := Option.bind_eq_some_iff.1 h
 have HR0_0 := Aside0.mk hr0_0
 have HC0_0 := Aside0.mk hc0_0
 have HR0_2 := Aside0.mk hr0_2
 have HC0_2 := Aside0.mk hc0_2
 have H1 := Aside0.mk h1
 clear hr0_0 hc0_0 hr0_2 hc0_2 h1
 by_cases he : e0 = 0
 case neg =>
  simp only [if_neg he, Option.some.injEq, Prod.mk.injEq] at h
  obtain ⟨rfl, rfl⟩ := h
  have he1 : (e0 != 0) = true := bne_iff_ne.mpr he
  clear he
  go_enter Try.func50, Try.ntmps50
  go_wp2_with fail
  refine (block_Blocks.calls k A0_0 c0_0 l0_0 a0_1 A0_2 c0_2 l0_2 bs e0 _ (Kd.C_alloc HR0_0.out _) HC0_0.out (Kd.C_alloc HR0_2.out _) HC0_2.out H1.out).mono ?_
  rintro e w1 ⟨v, rfl, hv, hb⟩
  have HB := Aside0.mk (below_then (below_alloc (Below.refl w.heap.size w) _) (by simp) hb)
  clear hb hv
  go_wp2_with fail
  go_ret2
  exact ⟨_, rfl, Kd.S_nil _ _ _ _ _, HB.out⟩
 subst he
 simp only [if_true] at h
 obtain ⟨⟨tk, et⟩, h2, h⟩ := Option.bind_eq_some_iff.1 h
 obtain ⟨⟨st, es⟩, h3, h⟩ := Option.bind_eq_some_iff.1 h
 by_cases hg : bs.length ≤ 16384 ∧ tk.length ≤ 16384 ∧ st.length ≤ 16384 ∧ tk.all (fun x => (Lit.int .i64 x).wf) = true ∧ st.all (fun x => (Lit.int .i64 x).wf) = true ∧ bs.all (fun x => (Lit.int .i64 x.f0).wf) = true
 case neg => rw [if_neg hg] at h; cases h
 rw [if_pos hg] at h
 obtain ⟨known, h4, h⟩ := Option.bind_eq_some_iff.1 h
 by_cases hkl : known.length ≤ 16384
 case neg => rw [if_neg hkl] at h; cases h
 rw [if_pos hkl] at h
 obtain ⟨q, h5, h⟩ := Option.bind_eq_some_iff.1 h
 simp only [Option.some.injEq, Prod.mk.injEq] at h
 obtain ⟨rfl, rfl⟩ := h
 obtain ⟨hbl, htl, hsl, hta, hsa, hba⟩ := hg
 have H2 := Aside0.mk h2
 have H3 := Aside0.mk h3
 have H4 := h4
 have H5 := Aside0.mk h5
 have HTA := Aside0.mk hta
 have HSA := Aside0.mk hsa
 have HBA := Aside0.mk hba
 clear h2 h3 h5 hta hsa hba h
 obtain ⟨NT, hNT⟩ : ∃ NT, NT = tk.map (edge_Edges.begins bs bs.length) := ⟨_, rfl⟩
 obtain ⟨NS, hNS⟩ : ∃ NS, NS = st.map (edge_Edges.begins bs bs.length) := ⟨_, rfl⟩
 obtain ⟨LL, hLL⟩ : ∃ LL, LL = NT ++ NS := ⟨_, rfl⟩
 have HNT := Aside0.mk hNT
 have HNS := Aside0.mk hNS
 have HLL := Aside0.mk hLL
 have hnt : NT.length ≤ 16384 := by rw [hNT, List.length_map]; exact htl
 have hns : NS.length ≤ 16384 := by rw [hNS, List.length_map]; exact hsl
 rw [← hNT, ← hNS, ← hLL] at H4
 replace H4 := Aside0.mk H4
 clear hNT hNS hLL h4
 have hmm := @run_makeMap Try.prog
 go_enter Try.func50, Try.ntmps50
 go_wp2_with fail
 refine (block_Blocks.calls k A0_0 c0_0 l0_0 a0_1 A0_2 c0_2 l0_2 bs 0 _ (Kd.C_alloc HR0_0.out _) HC0_0.out (Kd.C_alloc HR0_2.out _) HC0_2.out H1.out).mono ?_
 rintro e w1 ⟨v, rfl, hv, hb⟩
 obtain ⟨AL, cL, rfl, hcL, hC⟩ := Kd.R_reads hv
 have HB := Aside0.mk (below_then (below_alloc (Below.refl w.heap.size w) _) (by simp) hb)
 have HLC := Aside0.mk hC
 have HG := Aside0.mk ((hb.block w.heap.size (by simp)).trans (heap_alloc_new w _))
 clear hb hC hv
 go_wp2_with fail
 go_loopw [30] (fun v wr => ∃ (i : Nat), v = .int .i64 i ∧ i ≤ bs.length ∧ Aside0 (IMap Try.prog 3 3 wr w1.heap.size i (edge_Edges.begins bs i)) ∧ Aside0 (Below w1.heap.size w1 wr)) (fun v _ => bs.length - (intOf v).toNat)
 case atStart => exact ⟨0, rfl, Nat.zero_le _, ⟨IMap.made _ _ _ w1⟩, ⟨below_alloc (Below.refl _ _) _⟩⟩
 case round =>
  obtain ⟨i, rfl, hi, HM, HB1⟩ := hrel
  by_cases hlt : i < bs.length
  ·obtain ⟨ad, e1, hc0, hc1⟩ := at_T68 (Kd.C_below HLC.out HB1.out) i (by omega) (by omega)
   cases e1
   rw [Int.toNat_natCast] at hc0 hc1
   have hwf : (Lit.int .i64 (rd_T68 bs (i : Int)).f0).wf = true := edge_Edges.wf_at HBA.out i hlt
   obtain ⟨w2, hr, hM2, hg2⟩ := (IMap.below HM.out (below_alloc (Below.refl _ _) (.cells #[.int .i64 (rd_T68 bs (i : Int)).f0, .int .i64 (rd_T68 bs (i : Int)).f1] 68))).update (t := 98) Try.underlying98 Try.underlying3 Try.underlying3 (by simp only [maxLen]; omega) _ hwf (i : Int) (WalkArith.wf_i64 (by omega))
   have HM2 := Aside0.mk hM2
   have HB2 := Aside0.mk ((below_alloc HB1.out (.cells #[.int .i64 (rd_T68 bs (i : Int)).f0, .int .i64 (rd_T68 bs (i : Int)).f1] 68)).grown hg2 (by have := HB1.out.size; simp; omega) (fun k e => by cases e; exact Nat.le_refl _))
   clear hwf hM2 hg2
   go_wp2_with fail
   go_roundw
   case rel => exact ⟨i + 1, by go_num, hlt, HM2, HB2⟩
   case measure => simp [intOf]; omega
  ·obtain rfl : i = bs.length := by omega
   have HBw := Aside0.mk (below_then HB.out HB.out.size HB1.out)
   have HLC1 := Aside0.mk (Kd.C_below HLC.out HB1.out)
   have HG1 := Aside0.mk ((HB1.out.block _ (blk_lt HG.out)).trans HG.out)
   clear hlt HB1
   have k0 := (blk_cell HG1.out 0).trans rfl
   have k1 := (blk_cell HG1.out 1).trans rfl
   have k2 := (blk_cell HG1.out 2).trans rfl
   go_wp2_with fail
   refine (block_Taken.calls k A0_0 c0_0 l0_0 a0_1 A0_2 c0_2 l0_2 tk et _ (Kd.C_below HR0_0.out HBw.out) HC0_0.out (Kd.C_below HR0_2.out HBw.out) HC0_2.out H2.out).mono ?_
   rintro e w2 ⟨v2, rfl, hv, hb⟩
   obtain ⟨AT, cT, rfl, hcT, hC⟩ := Kd.R_reads hv
   have HTK := Aside0.mk hC
   have HB2 := Aside0.mk (below_then HBw.out HBw.out.size hb)
   have HG2 := Aside0.mk ((hb.block _ (blk_lt HG1.out)).trans HG1.out)
   have HLC2 := Aside0.mk (Kd.C_below HLC1.out hb)
   have HM2 := Aside0.mk (HM.out.below hb)
   clear k0 k1 k2 hb hC hv HBw HG1 HLC1 HM
   have k0 := (blk_cell HG2.out 0).trans rfl
   have k1 := (blk_cell HG2.out 1).trans rfl
   have k2 := (blk_cell HG2.out 2).trans rfl
   go_wp2_with fail
   refine (block_Sites.calls k A0_0 c0_0 l0_0 a0_1 A0_2 c0_2 l0_2 st es _ (Kd.C_below HR0_0.out HB2.out) HC0_0.out (Kd.C_below HR0_2.out HB2.out) HC0_2.out H3.out).mono ?_
   rintro e w3 ⟨v3, rfl, hv, hb⟩
   obtain ⟨AS, cS, rfl, hcS, hC⟩ := Kd.R_reads hv
   have HST := Aside0.mk hC
   have HTK3 := Aside0.mk (Kd.C_below HTK.out hb)
   have HB3 := Aside0.mk (below_then HB2.out HB2.out.size hb)
   have HG3 := Aside0.mk ((hb.block _ (blk_lt HG2.out)).trans HG2.out)
   have HLC3 := Aside0.mk (Kd.C_below HLC2.out hb)
   have HM3 := Aside0.mk (HM2.out.below hb)
   clear k0 k1 k2 hb hC hv HB2 HG2 HLC2 HM2 HTK
   go_wp2_with fail
   refine (edge_numbers.calls w1.heap.size bs.length (edge_Edges.begins bs bs.length) AT cT tk _ HM3.out HTK3.out hcT htl HTA.out).mono ?_
   rintro e w4 ⟨v4, rfl, hv4, hb⟩
   rw [← HNT.out] at hv4
   have HV4 := Aside0.mk hv4
   have HX4 := Aside0.mk hb
   clear hb hv4
   go_wp2_with fail
   refine (edge_numbers.calls w1.heap.size bs.length (edge_Edges.begins bs bs.length) AS cS st _ (HM3.out.below HX4.out) (Kd.C_below HST.out HX4.out) hcS hsl HSA.out).mono ?_
   rintro e w5 ⟨v5, rfl, hv5, hb⟩
   rw [← HNS.out] at hv5
   obtain ⟨AN, cN, rfl, hcN, hC⟩ := Kd.R_reads hv5
   have HN := Aside0.mk hC
   have HV5 := Aside0.mk (Kd.R_below HV4.out hb)
   have HX5 := Aside0.mk (below_then HX4.out HX4.out.size hb)
   clear hb hC hv5 HV4 HX4 HTK3 HST
   go_wp2_with (first | ((with_reducible refine gate_builtin (b := .append) (xs := #[.tmp 52, .tmp 55]) rfl ?_); at_builtin; refine Kd.R_append_rows (Kd.int .i64) (w0 := w3) w3.heap.size rfl (.tmp 52) (.tmp 55) 80 3 (.int .i64 0) 8 rfl Try.underlying80 info3 rfl (by decide) (by omega) v4 NT NS _ _ _ (fun _ => True) (fun _ => False) rfl rfl HV5.out HN.out (fun _ _ h => h) (fun _ h => h.elim) (fun _ _ => trivial) HX5.out HX5.out.size (by omega) ?_; intro v6 w6 ho hb hg hat; rw [← HLL.out] at ho; obtain ⟨AV, cV, e6, hcV, hCV⟩ := Kd.R_reads ho; subst e6; have HCV := Aside0.mk hCV; have HX6 := Aside0.mk hb; clear ho hb hg hat HV5 HN HX5 hCV))
   refine (edge_rising.calls k AV cV LL (bs.length : Int) known _ HCV.out hcV H4.out).mono ?_
   rintro e w7 ⟨v7, rfl, hv7, hb⟩
   obtain ⟨AK, cK, rfl, hcK, hC⟩ := Kd.R_reads hv7
   have HK := Aside0.mk hC
   have HX7 := Aside0.mk (below_then HX6.out HX6.out.size hb)
   have HB7 := Aside0.mk (below_then HB3.out HB3.out.size HX7.out)
   have HG7 := Aside0.mk ((HX7.out.block _ (blk_lt HG3.out)).trans HG3.out)
   have HLC7 := Aside0.mk (Kd.C_below HLC3.out HX7.out)
   have HM7 := Aside0.mk (HM3.out.below HX7.out)
   have HT7 := Aside0.mk (Kd.C_below HR0_0.out HB7.out)
   have hml := HR0_0.out.2.1
   clear hb hC hv7 HCV HX6 HX7 HB3 HG3 HLC3 HM3 HLC
   obtain ⟨hql, hq⟩ := edge_Edges.all_at k l0_0 bs (edge_Edges.begins bs bs.length) known bs.length bs 0 q H5.out
   have HQ := Aside0.mk hq
   have HQL := Aside0.mk hql
   clear hq hql
   go_wp2_with fail
   go_loopw [62, 14] (fun v u wr => ∃ (j : Nat), v = .int .i64 j ∧ j ≤ bs.length ∧ Aside0 (Kd.S (Kd.slice 3 (Kd.int .i64)) 80 wr w7.heap.size (fun _ => True) u (q.take j)) ∧ Aside0 (Below w7.heap.size w7 wr)) (fun v _ _ => bs.length - (intOf v).toNat)
   case atStart => exact ⟨0, rfl, Nat.zero_le _, ⟨Kd.S_nil _ _ _ _ _⟩, ⟨Below.refl _ _⟩⟩
   case round =>
    obtain ⟨j, rfl, hj, HO, HB1⟩ := hrel
    by_cases hlt : j < bs.length
    ·obtain ⟨⟨d0, d1, d2, d3, d4⟩, t, ⟨hb0, hb1⟩, e2, e3, e4⟩ := HQ.out j hlt
     have E2 := Aside0.mk e2
     have E3 := Aside0.mk e3
     have E4 := Aside0.mk e4
     clear e2 e3 e4
     obtain ⟨ad, e1, hc0, hc1⟩ := at_T68 (Kd.C_below HLC7.out HB1.out) j (by omega) (by omega)
     cases e1
     rw [Int.toNat_natCast] at hc0 hc1
     obtain ⟨ad2, e2, hc2⟩ := Kd.at_int (Kd.C_below HT7.out HB1.out) ((rd_T68 bs (j : Int)).f1 - 1) hb0 hb1
     cases e2
     rw [show ((rd_T68 bs (j : Int)).f1 - 1).toNat = (rd_T68 bs (j : Int)).f1.toNat - 1 by omega] at hc2
     have hc2' := fun o => pw_cell_below (below_alloc (Below.refl wr.heap.size wr) o) hc2
     have HGr := Aside0.mk ((HB1.out.block _ (blk_lt HG7.out)).trans HG7.out)
     have k0 := fun o => (blk_cell (blk_alloc HGr.out o) 0).trans rfl
     go_wp2_with fail
     refine (isa_Decode.calls k (rd l0_0 ((rd_T68 bs (j : Int)).f1 - 1)) d0 d1 d2 d3 d4 _ E2.out).mono ?_
     rintro e w8 ⟨rfl, hb⟩
     have HX8 := Aside0.mk (below_then (below_alloc (Below.refl wr.heap.size wr) _) (by simp) hb)
     clear k0 hc2 hc2' hc0 hc1 hb HGr
     go_upto_block 4 with (fail)
     obtain ⟨wd, hwd⟩ : ∃ wd, wd = w8.alloc (.cells #[.int .i8 d0, .int .i8 d1, .int .i8 d2, .int .i8 d3, .int .i64 d4] 40) := ⟨_, rfl⟩
     rw [← hwd]
     have HD := Aside0.mk (show Below wr.heap.size wr wd by rw [hwd]; exact below_alloc HX8.out _)
     have kd : wd.cell? ⟨w8.heap.size, 4, none⟩ = some (.int .i64 d4) := by rw [hwd]; exact (blk_cell (heap_alloc_new w8 _) 4).trans rfl
     have HMd := Aside0.mk ((HM7.out.below HB1.out).below HD.out)
     have HKd := Aside0.mk (Kd.C_below (Kd.C_below HK.out HB1.out) HD.out)
     clear hwd HX8
     go_cut [18] (fun v wc => Aside0 (Kd.R (Kd.int .i64) 3 wc wd.heap.size (fun _ => True) v t) ∧ Aside0 (Below wd.heap.size wd wc))
     case first =>
      by_cases pm1 : d0 = (-1)
      case pos =>
       subst pm1
       have ht := E3.out
       simp only [edge_Edges.to] at ht
       simp at ht
       subst ht
       go_wp2_with fail
       go_meet
       case rel => exact ⟨⟨Kd.R_nil _ _ _ _ _⟩, ⟨Below.refl _ _⟩⟩
      have bm1 : (d0 == (-1)) = false := beq_eq_false_iff_ne.mpr pm1
      by_cases p0 : d0 = 0
      case pos =>
       subst p0
       have ht := E3.out
       simp only [edge_Edges.to] at ht
       simp at ht
       subst ht
       go_wp2_with fail
       go_meet
       case rel => exact ⟨⟨Kd.R_nil _ _ _ _ _⟩, ⟨Below.refl _ _⟩⟩
      have b0 : (d0 == 0) = false := beq_eq_false_iff_ne.mpr p0
      by_cases p21 : d0 = 21
      case pos =>
       subst p21
       have ht := E3.out
       simp only [edge_Edges.to] at ht
       simp at ht
       subst ht
       go_wp2_with fail
       go_meet
       case rel => exact ⟨⟨Kd.R_nil _ _ _ _ _⟩, ⟨Below.refl _ _⟩⟩
      have b21 : (d0 == 21) = false := beq_eq_false_iff_ne.mpr p21
      by_cases p15 : d0 = 15
      case pos =>
       subst p15
       have ht := E3.out
       simp only [edge_Edges.to] at ht
       by_cases hw : (Lit.int .i64 d4).wf = true
       case neg => simp [hw] at ht
       simp [hw] at ht
       have HT := Aside0.mk ht
       clear ht
       have hl := HMd.out.lookup (t := 98) Try.underlying98 Try.underlying3 Try.underlying3 (Try.zeroValue3 _) _ hw
       clear hw
       go_wp2_with fail
       go_meet
       case rel => exact ⟨⟨by rw [← HT.out]; exact R_ints_lit wd _ _ _ [edge_Edges.begins bs bs.length d4] (Nat.le_refl _) (by simp)⟩, ⟨below_alloc (Below.refl _ _) _⟩⟩
      have b15 : (d0 == 15) = false := beq_eq_false_iff_ne.mpr p15
      by_cases p17 : d0 = 17
      case pos =>
       subst p17
       have ht := E3.out
       simp only [edge_Edges.to] at ht
       by_cases hw : (Lit.int .i64 d4).wf = true
       case neg => simp [hw] at ht
       simp [hw] at ht
       have HT := Aside0.mk ht
       clear ht
       have hl := HMd.out.lookup (t := 98) Try.underlying98 Try.underlying3 Try.underlying3 (Try.zeroValue3 _) _ hw
       clear hw
       go_wp2_with fail
       go_meet
       case rel => exact ⟨⟨by rw [← HT.out]; exact R_ints_lit wd _ _ _ [edge_Edges.begins bs bs.length d4] (Nat.le_refl _) (by simp)⟩, ⟨below_alloc (Below.refl _ _) _⟩⟩
      have b17 : (d0 == 17) = false := beq_eq_false_iff_ne.mpr p17
      by_cases p16 : d0 = 16
      case pos =>
       subst p16
       have ht := E3.out
       simp only [edge_Edges.to] at ht
       by_cases hw : (Lit.int .i64 d4).wf = true
       case neg => simp [hw] at ht
       simp [hw] at ht
       have HT := Aside0.mk ht
       clear ht
       have hl := HMd.out.lookup (t := 98) Try.underlying98 Try.underlying3 Try.underlying3 (Try.zeroValue3 _) _ hw
       clear hw
       go_wp2_with fail
       have hlit := R_ints_lit wd wd.heap.size 3 .i64 [edge_Edges.begins bs bs.length d4, (j : Int) + 1] (Nat.le_refl _) (by simp)
       refine (edge_rising.calls k (some ⟨wd.heap.size, 0, none⟩) 2 [edge_Edges.begins bs bs.length d4, (j : Int) + 1] (bs.length : Int) t _ (Kd.R_reads' hlit).2.2 (Nat.le_refl _) HT.out).mono ?_
       rintro e w9 ⟨v9, rfl, hv9, hb⟩
       have HV9 := Aside0.mk (Kd.R_lower hv9 (show wd.heap.size ≤ (wd.alloc _).heap.size by simp))
       have HX9 := Aside0.mk (below_then (below_alloc (Below.refl wd.heap.size wd) _) (by simp) hb)
       clear hv9 hb hlit hl
       go_wp2_with fail
       go_meet
       case rel => exact ⟨HV9, HX9⟩
      have b16 : (d0 == 16) = false := beq_eq_false_iff_ne.mpr p16
      by_cases p18 : d0 = 18
      case pos =>
       subst p18
       have ht := E3.out
       simp only [edge_Edges.to] at ht
       simp at ht
       subst ht
       go_wp2_with (first | ((with_reducible refine gate_builtin (b := .append) (xs := #[.tmp 107, .tmp 108]) rfl ?_); at_builtin; refine Kd.R_append_rows (Kd.int .i64) (w0 := wd) wd.heap.size rfl (.tmp 107) (.tmp 108) 80 3 (.int .i64 0) 8 rfl Try.underlying80 info3 rfl (by decide) (by omega) (.slice none 0 0) ([] : List Int) known _ _ _ (fun _ => True) (fun _ => False) rfl rfl (Kd.R_nil _ _ _ _ _) HKd.out (fun _ _ h => h) (fun _ h => h.elim) (fun _ _ => trivial) (Below.refl _ _) (Nat.le_refl _) (by simp; omega) ?_; intro v9 w9 ho hb hg hat; have HV9 := Aside0.mk ho; have HX9 := Aside0.mk hb; clear ho hb hg hat))
       go_meet
       case rel => exact ⟨HV9, HX9⟩
      have b18 : (d0 == 18) = false := beq_eq_false_iff_ne.mpr p18
      by_cases p19 : d0 = 19
      case pos =>
       subst p19
       have ht := E3.out
       simp only [edge_Edges.to] at ht
       simp at ht
       subst ht
       go_wp2_with (first | ((with_reducible refine gate_builtin (b := .append) (xs := #[.tmp 107, .tmp 108]) rfl ?_); at_builtin; refine Kd.R_append_rows (Kd.int .i64) (w0 := wd) wd.heap.size rfl (.tmp 107) (.tmp 108) 80 3 (.int .i64 0) 8 rfl Try.underlying80 info3 rfl (by decide) (by omega) (.slice none 0 0) ([] : List Int) known _ _ _ (fun _ => True) (fun _ => False) rfl rfl (Kd.R_nil _ _ _ _ _) HKd.out (fun _ _ h => h) (fun _ h => h.elim) (fun _ _ => trivial) (Below.refl _ _) (Nat.le_refl _) (by simp; omega) ?_; intro v9 w9 ho hb hg hat; have HV9 := Aside0.mk ho; have HX9 := Aside0.mk hb; clear ho hb hg hat))
       go_meet
       case rel => exact ⟨HV9, HX9⟩
      have b19 : (d0 == 19) = false := beq_eq_false_iff_ne.mpr p19
      have ht := E3.out
      simp [edge_Edges.to, pm1, p0, p21, p15, p17, p16, p18, p19] at ht
      have HT := Aside0.mk ht
      clear ht pm1 p0 p21 p15 p17 p16 p18 p19
      go_wp2_with fail
      go_meet
      case rel => exact ⟨⟨by rw [← HT.out]; exact R_ints_lit wd _ _ _ [(j : Int) + 1] (Nat.le_refl _) (by simp)⟩, ⟨below_alloc (Below.refl _ _) _⟩⟩
     case rest =>
      obtain ⟨HV, HXc⟩ := hcut
      have hbase := fun k hk => Kd.R_base HV.out k hk
      obtain ⟨A9, c9, rfl, hc9, hC9⟩ := Kd.R_reads HV.out
      have HO2 := Aside0.mk (Kd.S_elder' (Kd.S_below HO.out HD.out) hbase HXc.out)
      have HXe := Aside0.mk (below_then HB1.out HB1.out.size (below_then HD.out HD.out.size HXc.out))
      have HM1 := Aside0.mk (Kd.M_row (Kd.R_lower (Kd.R_tight rfl HV.out) (Nat.le_trans HB1.out.size HD.out.size)))
      have HLn := Aside0.mk (show (q.take j).length ≤ 16384 by rw [List.length_take]; omega)
      clear hbase hC9 hc9 HO HV HXc HD kd HMd HKd
      go_wp2_with (first | ((with_reducible refine gate_builtin (b := .append) (xs := #[.tmp 110, .tmp 112]) rfl ?_); at_builtin; refine Kd.S_append (Kd.slice 3 (Kd.int .i64)) (w0 := w7) w7.heap.size rfl (.tmp 110) (.tmp 112) 92 80 (.slice none 0 0) 24 rfl Try.underlying92 info80 rfl (by decide) (by omega) _ (q.take j) t [.slice A9 t.length c9] (fun _ => True) (fun k_ => some k_ = (.slice A9 t.length c9 : Value).ownBlock) rfl rfl HM1.out (fun k_ hk_ => ⟨trivial, fun e_ => (Kd.S_lt2 HO2.out k_ e_.symm) hk_⟩) (fun _ _ => trivial) (Kd.S_mono HO2.out (fun k_ hk => ⟨trivial, fun e_ => hk.2 e_⟩)) HXe.out HXe.out.size (by have := HLn.out; omega) ?_; intro v1 wz ho hb hg hat; rw [← E4.out] at ho; have HO3 := Aside0.mk ho; have HB3 := Aside0.mk hb; clear ho hb hg hat HO2 HXe HM1))
      go_roundw
      case rel => exact ⟨j + 1, by go_num, hlt, HO3, HB3⟩
      case measure => simp [intOf]; omega
    ·go_wp2_with fail
     go_ret2
     obtain rfl : j = bs.length := by omega
     refine ⟨_, rfl, ?_, below_then HB7.out HB7.out.size HB1.out⟩
     have h9 := HO.out
     rw [List.take_of_length_le (by have := HQL.out; omega)] at h9
     exact Kd.S_lower h9 HB7.out.size

/-! ### edge_Back: function 51 -/
mutual
def edge_Back.l0 : Nat → List (List Int) → List (List Int) → List (List Int) → Int → Int → Option ((List (List Int)))
 | 0, _, _, _, _, _ => none
 | k + 1, x0, x3, x11, x12, x13 => if x13 < x12 then (if 0 ≤ x13 then (if x13 < (x11.length : Int) then ((edge_rising.f k (rd_L8 x11 x13) (x0.length : Int)).bind fun t172 => (edge_Back.l1 k x0 x3 x13 x11 x12 x13 t172 (t172.length : Int) 0)) else (none)) else (none)) else (some x3)
def edge_Back.l1 : Nat → List (List Int) → List (List Int) → Int → List (List Int) → Int → Int → List Int → Int → Int → Option ((List (List Int)))
 | 0, _, _, _, _, _, _, _, _, _ => none
 | k + 1, x0, x3, x4, x11, x12, x13, x21, x22, x23 => if x23 < x22 then (if 0 ≤ x23 then (if x23 < (x21.length : Int) then (if 0 ≤ (rd x21 x23) then (if (rd x21 x23) < (x3.length : Int) then (if (rd_L8 x3 (rd x21 x23)).length < 17592186044416 then (edge_Back.l1 k x0 (x3.set ((rd x21 x23) : Int).toNat ((rd_L8 x3 (rd x21 x23)) ++ [x4])) x4 x11 x12 x13 x21 x22 (wrap64 (x23 + 1))) else (none)) else (none)) else (none)) else (none)) else (none)) else (edge_Back.l0 k x0 x3 x11 x12 (wrap64 (x13 + 1)))
end
def edge_Back.f (k : Nat) (l0 : List (List Int)) : Option ((List (List Int))) := if 0 ≤ (l0.length : Int) then (if ((l0.length : Int) : Int).toNat ≤ 11728124029610 then (edge_Back.l0 k l0 (List.replicate ((l0.length : Int) : Int).toNat []) l0 (l0.length : Int) 0) else (none)) else (none)
theorem edge_Back.mono_l : ∀ k, (∀ y0 y1 y2 y3 y4, LeO (edge_Back.l0 k y0 y1 y2 y3 y4) (edge_Back.l0 (k + 1) y0 y1 y2 y3 y4)) ∧ (∀ y0 y1 y2 y3 y4 y5 y6 y7 y8, LeO (edge_Back.l1 k y0 y1 y2 y3 y4 y5 y6 y7 y8) (edge_Back.l1 (k + 1) y0 y1 y2 y3 y4 y5 y6 y7 y8))
 | 0 => ⟨fun _ _ _ _ _ r h => by simp [edge_Back.l0] at h, fun _ _ _ _ _ _ _ _ _ r h => by simp [edge_Back.l1] at h⟩
 | k + 1 => by
  obtain ⟨ih0, ih1⟩ := edge_Back.mono_l k
  refine ⟨?_, ?_⟩
  ·intro y0 y1 y2 y3 y4
   unfold edge_Back.l0
   repeat' first
   | (with_reducible exact ih0 _ _ _ _ _)
   | (with_reducible exact ih1 _ _ _ _ _ _ _ _ _)
   | (with_reducible exact edge_rising.mono _ _ _)
   | (with_reducible exact LeO.refl _)
   | (with_reducible exact LeO.none _)
   | (with_reducible refine LeO.ite ?_ ?_)
   | (with_reducible refine LeO.bind ?_ (fun _ => ?_))
   | exact ih0 _ _ _ _ _
   | exact ih1 _ _ _ _ _ _ _ _ _
   | exact edge_rising.mono _ _ _
   | exact LeO.none _
   | refine LeO.ite ?_ ?_
   | refine LeO.bind ?_ (fun _ => ?_)
  ·intro y0 y1 y2 y3 y4 y5 y6 y7 y8
   unfold edge_Back.l1
   repeat' first
   | (with_reducible exact ih0 _ _ _ _ _)
   | (with_reducible exact ih1 _ _ _ _ _ _ _ _ _)
   | (with_reducible exact edge_rising.mono _ _ _)
   | (with_reducible exact LeO.refl _)
   | (with_reducible exact LeO.none _)
   | (with_reducible refine LeO.ite ?_ ?_)
   | (with_reducible refine LeO.bind ?_ (fun _ => ?_))
   | exact ih0 _ _ _ _ _
   | exact ih1 _ _ _ _ _ _ _ _ _
   | exact edge_rising.mono _ _ _
   | exact LeO.none _
   | refine LeO.ite ?_ ?_
   | refine LeO.bind ?_ (fun _ => ?_)
theorem edge_Back.mono : ∀ a0 k, LeO (edge_Back.f k a0) (edge_Back.f (k + 1) a0) := by
 intro a0 k
 obtain ⟨ih0, ih1⟩ := edge_Back.mono_l k
 unfold edge_Back.f
 repeat' first
   | (with_reducible exact ih0 _ _ _ _ _)
   | (with_reducible exact ih1 _ _ _ _ _ _ _ _ _)
   | (with_reducible exact edge_rising.mono _ _ _)
   | (with_reducible exact LeO.refl _)
   | (with_reducible exact LeO.none _)
   | (with_reducible refine LeO.ite ?_ ?_)
   | (with_reducible refine LeO.bind ?_ (fun _ => ?_))
   | exact ih0 _ _ _ _ _
   | exact ih1 _ _ _ _ _ _ _ _ _
   | exact edge_rising.mono _ _ _
   | exact LeO.none _
   | refine LeO.ite ?_ ?_
   | refine LeO.bind ?_ (fun _ => ?_)
set_option maxHeartbeats 8000000 in
set_option maxRecDepth 100000 in
theorem edge_Back.calls (k : Nat) (A0 : Option Addr) (c0 : Nat) (l0 : List (List Int)) (r : List (List Int)) (w : World) (hr0 : Kd.C (Kd.slice 3 (Kd.int .i64)) w A0 l0.length l0) (hc0 : l0.length ≤ c0) (h : edge_Back.f k l0 = some r) :
  Calls Try.prog 51 #[.slice A0 l0.length c0] w fun e w' => ∃ v0_ : Value, e = .returned (v0_) ∧ Kd.S (Kd.slice 3 (Kd.int .i64)) 80 w' w.heap.size (fun _ => True) v0_ r ∧ Below w.heap.size w w' := by
 have HR0 := Aside0.mk hr0
 have HC0 := Aside0.mk hc0
 clear hr0 hc0
 have HB := Aside0.mk (Below.refl w.heap.size w)
 have H : (if 0 ≤ (l0.length : Int) then (if ((l0.length : Int) : Int).toNat ≤ 11728124029610 then (edge_Back.l0 k l0 (List.replicate ((l0.length : Int) : Int).toNat []) l0 (l0.length : Int) 0) else (none)) else (none)) = some r := h
 clear h
 by_cases c2 : 0 ≤ (l0.length : Int)
 ·rw [if_pos c2] at H
  have c2b0 := eq_true c2
  have c2b1 : decide (0 ≤ (l0.length : Int)) = true := decide_eq_true c2
  clear c2
  by_cases c3 : ((l0.length : Int) : Int).toNat ≤ 11728124029610
  ·rw [if_pos c3] at H
   have c3b0 := eq_true c3
   have c3b1 : decide (((l0.length : Int) : Int).toNat ≤ 11728124029610) = true := decide_eq_true c3
   clear c3
   obtain ⟨y168, hy168⟩ : ∃ y_ : List (List Int), y_ = (List.replicate ((l0.length : Int) : Int).toNat []) := ⟨_, rfl⟩
   replace H : (edge_Back.l0 k l0 y168 l0 (l0.length : Int) 0) = some r := by first | (rw [hy168]; with_reducible exact H) | (have H2_ := (Option.bind_some _ _).symm.trans H; rw [hy168]; with_reducible exact H2_) | (have H2_ := (Option.bind_some _ _).symm.trans H; with_reducible exact H2_) | with_reducible exact H | (rw [hy168]; exact H) | exact H
   have Ny168 := Aside0.mk hy168
   clear hy168
   have H' := Aside0.mk H
   clear H
   go_enter Try.func51, Try.ntmps51
   go_wp2_with (first | ((with_reducible refine gate_dst (N := 10) rfl ?_); refine Kd.S_make (Kd.slice 3 (Kd.int .i64)) _ 80 rfl (N := 10) rfl 92 _ _ rfl (l0.length : Int) rfl rfl Try.underlying92 (.slice none 0 0) 24 info80 rfl (by decide) (by omega) [] (ok := fun _ => True) (okp := fun _ => True) ⟨_, rfl, Kd.R_nil _ _ _ _ _⟩ (fun _ hk => hk) trivial (of_decide_eq_true (by first | (with_reducible assumption) | assumption)) (Nat.le_trans (Nat.mul_le_mul_right _ (of_decide_eq_true (by first | (with_reducible assumption) | assumption) : (l0.length : Int).toNat ≤ 11728124029610)) (by omega)) (Below.refl _ _) (Nat.le_refl _) ?_; intro v169 w4 ho5 hb hg_ hnew_; clear hg_ hnew_; (first | rw [← Ny168.out] at ho5 | (simp only [Int.reduceToNat] at ho5; rw [← Ny168.out] at ho5)); have n0_ := Aside0.mk (Kd.S_lower ho5 (below_size (by repeat (first | (with_reducible first | exact HB.out | apply below_alloc | apply pw_below_drewN | apply below_drew1) | exact HB.out)))); have n1_ := Aside0.mk (below_step (by repeat (first | (with_reducible first | exact HB.out | apply below_alloc | apply pw_below_drewN | apply below_drew1) | exact HB.out)) hb); clear HB; have HO170 := n0_; have HB := n1_; clear n0_ n1_; clear hb ho5))
   go_loopg [13] k (fun kq v13 w' => ∃ (x3_1 : List (List Int)) (x13_1 : Int), v13 = .int .i64 x13_1 ∧ Aside0 (edge_Back.l0 kq l0 x3_1 l0 (l0.length : Int) x13_1 = some r) ∧ Aside0 (kq ≤ k) ∧ Aside0 (Kd.S (Kd.slice 3 (Kd.int .i64)) 80 w' w.heap.size (fun _ => True) v169 x3_1) ∧ Aside0 (Below w.heap.size w w'))
   case atStart => exact ⟨(y168), (0), (by first | rfl | (simp; done) | (simp [*]; done)), H', ⟨Nat.le_refl _⟩, ⟨by (with_reducible repeat (first | apply Kd.S_alloc | apply Kd.S_drewN | apply Kd.S_drew)); exact HO170.out⟩, ⟨by repeat (first | (with_reducible first | exact HB.out | apply below_alloc | apply pw_below_drewN | apply below_drew1) | exact HB.out)⟩⟩
   case round =>
    clear H'
    try clear c2
    try clear c2b0
    try clear c2b1
    try clear p2
    try clear c3
    try clear c3b0
    try clear c3b1
    try clear c5
    obtain ⟨x3_1, x13_1, rfl, HA, HK1, HO_3, HB⟩ := hrel
    cases gk with
    | zero => exact absurd HA.out (by simp [edge_Back.l0])
    | succ k1 =>
     have H := HA.out
     clear HA
     simp only [edge_Back.l0] at H
     by_cases c6 : x13_1 < (l0.length : Int)
     ·rw [if_pos c6] at H
      have c6b0 : decide (x13_1 < (l0.length : Int)) = true := decide_eq_true c6
      clear c6
      by_cases c7 : 0 ≤ x13_1
      ·rw [if_pos c7] at H
       have c7b0 : decide (0 ≤ x13_1) = true := decide_eq_true c7
       clear c7
       by_cases c8 : x13_1 < (l0.length : Int)
       ·rw [if_pos c8] at H
        have c8b0 : decide (x13_1 < (l0.length : Int)) = true := decide_eq_true c8
        clear c8
        replace H := Option.bind_eq_some_iff.mp H
        obtain ⟨t172, A90, H⟩ := H
        replace H : (edge_Back.l1 k1 l0 x3_1 x13_1 l0 (l0.length : Int) x13_1 t172 (t172.length : Int) 0) = some r := H
        have A9 := Aside0.mk A90
        clear A90
        have H' := Aside0.mk H
        clear H
        have p171 : 0 ≤ (x13_1 : Int) := of_decide_eq_true (by first | (with_reducible assumption) | assumption)
        have q171 : x13_1 < (l0.length : Int) := of_decide_eq_true (by first | (with_reducible assumption) | assumption)
        obtain ⟨ad171, A171_0, c171_0, e171, hx171_0, hl171_0, hi171_0⟩ := at_L8 HR0.out x13_1 p171 q171
        cases e171
        replace hx171_0 := (HB.out.cell (World.block_lt_of_cell? w _ hx171_0)).trans hx171_0
        have HR171_0 := Aside0.mk hi171_0
        have HC171_0 := Aside0.mk hl171_0
        clear hi171_0 hl171_0
        replace p171 := eq_true p171
        replace q171 := eq_true q171
        go_wp2_with (first | ((with_reducible refine gate_callee (f := 55) rfl ?_); refine goesL_ (some 21) rfl rfl Try.func55 (by kernel_rfl) rfl #[.slice A171_0 (rd_L8 l0 x13_1).length c171_0, .int .i64 (l0.length : Int)] rfl (by (try simp only [List.map_toArray, List.map_cons, List.map_nil]); first | done | rfl | (simp only [List.length_drop, List.length_take]; rfl)) ?_; (with_reducible refine (edge_rising.calls k1 _ _ (rd_L8 l0 x13_1) (l0.length : Int) t172 _ ?side1 ?side2 A9.out).mono ?_); (case side1 => repeat (first | exact (Kd.C_below HR171_0.out HB.out) | (with_reducible refine Kd.C_alloc ?_ _) | (with_reducible refine Kd.C_drewN ?_ _) | (with_reducible refine Kd.C_drew ?_))); (case side2 => exact HC171_0.out); rintro e w10 ⟨v173, rfl, ho0, hb⟩; refine ⟨_, rfl, ?_⟩; have n0_ := Aside0.mk (Kd.S_elder' (by (with_reducible repeat (first | apply Kd.S_alloc | apply Kd.S_drewN | apply Kd.S_drew)); exact HO_3.out) (Kd.R_base ho0) hb); have n1_ := Aside0.mk (Kd.R_lower ho0 (below_size (by repeat (first | (with_reducible first | exact HB.out | apply below_alloc | apply pw_below_drewN | apply below_drew1) | exact HB.out)))); have n2_ := Aside0.mk (below_step (by repeat (first | (with_reducible first | exact HB.out | apply below_alloc | apply pw_below_drewN | apply below_drew1) | exact HB.out)) hb); clear HO_3; clear HB; have HO_3 := n0_; have HO174 := n1_; have HB := n2_; clear n0_ n1_ n2_; (try clear hb); (try clear hb2); (try clear hk); (try clear hi); (try clear ho0); obtain ⟨Ao11, co11, eo11⟩ := Kd.R_slice HO174.out; subst eo11))
        go_loopg [23] k1 (fun kq v23 w' => ∃ (x3_2 : List (List Int)) (x23_2 : Int), v23 = .int .i64 x23_2 ∧ Aside0 (edge_Back.l1 kq l0 x3_2 x13_1 l0 (l0.length : Int) x13_1 t172 (t172.length : Int) x23_2 = some r) ∧ Aside0 (kq ≤ k1) ∧ Aside0 (Kd.S (Kd.slice 3 (Kd.int .i64)) 80 w' w.heap.size (fun k_ => some k_ ≠ ((.slice Ao11 t172.length co11) : Value).ownBlock) v169 x3_2) ∧ Aside0 (Kd.R (Kd.int .i64) 3 w' w.heap.size (fun _ => True) (.slice Ao11 t172.length co11) t172) ∧ Aside0 (Below w.heap.size w w'))
        case atStart => exact ⟨(x3_1), (0), (by first | rfl | (simp; done) | (simp [*]; done)), H', ⟨Nat.le_refl _⟩, ⟨by (with_reducible repeat (first | apply Kd.S_alloc | apply Kd.S_drewN | apply Kd.S_drew)); exact Kd.S_mono HO_3.out (fun _ hk => hk.2)⟩, ⟨by (with_reducible repeat (first | apply Kd.R_alloc | apply Kd.R_drewN | apply Kd.R_drew)); exact HO174.out⟩, ⟨by repeat (first | (with_reducible first | exact HB.out | apply below_alloc | apply pw_below_drewN | apply below_drew1) | exact HB.out)⟩⟩
        case round =>
         clear H'
         try clear c1
         try clear p1
         try clear q1
         try clear hx1
         try clear c2
         try clear c2b0
         try clear c2b1
         try clear p2
         try clear c3
         try clear c3b0
         try clear c3b1
         try clear c5
         try clear c6
         try clear c6b0
         try clear c7
         try clear c7b0
         try clear c8
         try clear c8b0
         try clear hx171_0
         try clear p171
         try clear p2
         try clear q171
         obtain ⟨x3_2, x23_2, rfl, HA, HK2, HO_3, HO_21, HB⟩ := hrel
         cases gk with
         | zero => exact absurd HA.out (by simp [edge_Back.l1])
         | succ k2 =>
          have H := HA.out
          clear HA
          simp only [edge_Back.l1] at H
          by_cases c12 : x23_2 < (t172.length : Int)
          ·rw [if_pos c12] at H
           have c12b0 : decide (x23_2 < (t172.length : Int)) = true := decide_eq_true c12
           clear c12
           by_cases c13 : 0 ≤ x23_2
           ·rw [if_pos c13] at H
            have c13b0 : decide (0 ≤ x23_2) = true := decide_eq_true c13
            clear c13
            by_cases c14 : x23_2 < (t172.length : Int)
            ·rw [if_pos c14] at H
             have c14b0 : decide (x23_2 < (t172.length : Int)) = true := decide_eq_true c14
             clear c14
             by_cases c15 : 0 ≤ (rd t172 x23_2)
             ·rw [if_pos c15] at H
              have c15b0 : decide (0 ≤ (rd t172 x23_2)) = true := decide_eq_true c15
              clear c15
              by_cases c16 : (rd t172 x23_2) < (x3_2.length : Int)
              ·rw [if_pos c16] at H
               have c16b0 : decide ((rd t172 x23_2) < (x3_2.length : Int)) = true := decide_eq_true c16
               clear c16
               by_cases c17 : (rd_L8 x3_2 (rd t172 x23_2)).length < 17592186044416
               ·rw [if_pos c17] at H
                have LMc17 := Aside0.mk c17
                clear c17
                obtain ⟨y177, hy177⟩ : ∃ y_ : List Int, y_ = ((rd_L8 x3_2 (rd t172 x23_2)) ++ [x13_1]) := ⟨_, rfl⟩
                replace H : (edge_Back.l1 k2 l0 (x3_2.set ((rd t172 x23_2) : Int).toNat y177) x13_1 l0 (l0.length : Int) x13_1 t172 (t172.length : Int) (wrap64 (x23_2 + 1))) = some r := by first | (rw [hy177]; with_reducible exact H) | (have H2_ := (Option.bind_some _ _).symm.trans H; rw [hy177]; with_reducible exact H2_) | (have H2_ := (Option.bind_some _ _).symm.trans H; with_reducible exact H2_) | with_reducible exact H | (rw [hy177]; exact H) | exact H
                have Ny177 := Aside0.mk hy177
                clear hy177
                obtain ⟨y180, hy180⟩ : ∃ y_ : List (List Int), y_ = (x3_2.set ((rd t172 x23_2) : Int).toNat y177) := ⟨_, rfl⟩
                replace H : (edge_Back.l1 k2 l0 y180 x13_1 l0 (l0.length : Int) x13_1 t172 (t172.length : Int) (wrap64 (x23_2 + 1))) = some r := by first | (rw [hy180]; with_reducible exact H) | (have H2_ := (Option.bind_some _ _).symm.trans H; rw [hy180]; with_reducible exact H2_) | (have H2_ := (Option.bind_some _ _).symm.trans H; with_reducible exact H2_) | with_reducible exact H | (rw [hy180]; exact H) | exact H
                have Ny180 := Aside0.mk hy180
                clear hy180
                have H' := Aside0.mk H
                clear H
                have p175 : 0 ≤ (x23_2 : Int) := of_decide_eq_true (by first | (with_reducible assumption) | assumption)
                have q175 : x23_2 < (t172.length : Int) := of_decide_eq_true (by first | (with_reducible assumption) | assumption)
                obtain ⟨ad175, e175, hx175_0⟩ := Kd.at_int (Kd.R_reads' HO_21.out).2.2 x23_2 p175 q175
                cases e175
                replace p175 := eq_true p175
                replace q175 := eq_true q175
                obtain ⟨Ao19, co19, eo19⟩ := Kd.S_slice HO_3.out
                subst eo19
                have p176 : 0 ≤ ((rd t172 x23_2) : Int) := of_decide_eq_true (by first | (with_reducible assumption) | assumption)
                have q176 : (rd t172 x23_2) < (x3_2.length : Int) := of_decide_eq_true (by first | (with_reducible assumption) | assumption)
                obtain ⟨ad176, A176_0, c176_0, e176, hx176_0, hl176_0, hi176_0⟩ := at_L8 (Kd.S_reads' HO_3.out).2.2 (rd t172 x23_2) p176 q176
                cases e176
                obtain ⟨ce176, hce176, hMe176, hcc176⟩ := Kd.S_get HO_3.out [] (rd t172 x23_2) p176 (by first | exact q176 | exact of_decide_eq_true (by first | (with_reducible assumption) | assumption) | (have e_ := (Kd.S_reads' HO_3.out).1; omega))
                obtain ⟨ve176_0, rfl, ge176_0⟩ := hMe176
                have hv176_0 := hcc176 0 _ rfl
                rw [Nat.add_zero, show ((Kd.slice 3 (Kd.int .i64))).sz = 1 from rfl, Nat.mul_one] at hv176_0
                replace hv176_0 := Option.some.inj (hv176_0.symm.trans hx176_0)
                rw [hv176_0] at ge176_0
                have HL176_0 := Aside0.mk (show Kd.R (Kd.int .i64) 3 _ _ _ _ (rd_L8 x3_2 (rd t172 x23_2)) from ge176_0)
                clear hv176_0 ge176_0
                have HX176_0 := Aside0.mk hx176_0
                clear hcc176 hce176
                have HR176_0 := Aside0.mk hi176_0
                have HC176_0 := Aside0.mk hl176_0
                clear hi176_0 hl176_0
                replace p176 := eq_true p176
                replace q176 := eq_true q176
                obtain ⟨go20, co20, eo20, gb20, gl20, cl20, HG20⟩ := Kd.S_form HO_3.out (by have h_ : ((rd t172 x23_2) : Int) < ((x3_2.length : Int) : Int) := of_decide_eq_true (by first | (with_reducible assumption) | assumption); have h2_ : 0 ≤ ((rd t172 x23_2) : Int) := (of_decide_eq_true (by first | (with_reducible assumption) | assumption)); omega)
                (first | cases eo20 | (injection eo20 with ea_ en_ ec_; (first | subst ea_ | (injection ea_ with ea_; subst ea_)); subst ec_; clear en_))
                have GB20 := Aside0.mk gb20
                have GG20 := Aside0.mk HG20
                clear gb20 gl20 HG20
                (first | simp only [add_plain] at hx176_0 | skip)
                obtain ⟨oki20, ce20, hcl20, hM20, hcc20, _, _, hH20⟩ := Kd.S_elem HO_3.out [] ((rd t172 x23_2) : Int) (of_decide_eq_true (by first | (with_reducible assumption) | assumption)) (by have h_ : ((rd t172 x23_2) : Int) < ((x3_2.length : Int) : Int) := of_decide_eq_true (by first | (with_reducible assumption) | assumption); first | exact h_ | (have e_ := (Kd.S_reads' HO_3.out).1; omega) | simpa using h_)
                obtain ⟨ve20_0, rfl, ge20_0⟩ := hM20
                have hv20 := hcc20 0 _ rfl
                have hX20 := HX176_0.out
                (try simp only [add_plain] at hX20)
                (try simp only [Nat.add_zero] at hv20)
                (try rw [show ((Kd.slice 3 (Kd.int .i64))).sz = 1 from rfl, Nat.mul_one] at hv20)
                replace hv20 := Option.some.inj (hv20.symm.trans hX20)
                subst hv20
                clear hX20 hcc20 hcl20
                have UU20 := Aside0.mk (show Kd.R (Kd.int .i64) 3 _ w.heap.size oki20 (.slice A176_0 (rd_L8 x3_2 (rd t172 x23_2)).length c176_0) (rd_L8 x3_2 (rd t172 x23_2)) from ge20_0)
                have HH20 := Aside0.mk hH20
                have HN20 := Aside0.mk (Kd.S_reads' HO_3.out).1
                clear hH20 ge20_0
                go_wp2_with (first | ((with_reducible refine gate_builtin (b := .append) (xs := #[.tmp 32, .tmp 34]) rfl ?_); at_builtin; refine Kd.R_append (Kd.int .i64) (w0 := w) w.heap.size rfl (.tmp 32) (.tmp 34) 80 3 (.int .i64 0) 8 rfl Try.underlying80 info3 rfl (by decide) (by omega) (.slice A176_0 (rd_L8 x3_2 (rd t172 x23_2)).length c176_0) (rd_L8 x3_2 (rd t172 x23_2)) x13_1 [.int .i64 x13_1] (fun k_ => oki20 k_ ∨ ((fun k_ => some k_ ≠ (.slice (some ad175) t172.length co11 : Value).ownBlock)) k_ ∧ wr.heap.size ≤ k_) (fun _ => False) rfl rfl ?aP (fun _ hk => hk.elim) ?aF ?aO ?aB ?aS ?aL ?_; (case aP => exact rfl); (case aB => exact (by repeat (first | (with_reducible first | exact HB.out | apply below_alloc | apply pw_below_drewN | apply below_drew1) | exact HB.out))); (case aF => exact (fun k_ hk => .inr ⟨Kd.fresh' (Kd.R_lt (by (with_reducible repeat (first | apply Kd.R_alloc | apply Kd.R_drewN | apply Kd.R_drew)); exact HO_21.out)) k_ hk, hk⟩)); (case aO => exact (by (with_reducible repeat (first | apply Kd.R_alloc | apply Kd.R_drewN | apply Kd.R_drew)); exact Kd.R_mono UU20.out (fun _ hk => .inl hk))); (case aS => exact (below_size (by repeat (first | (with_reducible first | exact HB.out | apply below_alloc | apply pw_below_drewN | apply below_drew1) | exact HB.out)))); (case aL => have := LMc17.out; omega); intro v178 w21 ho hb hg hat; rw [← Ny177.out] at ho; have n0_ := Aside0.mk (Kd.R_grown2 (by (with_reducible repeat (first | apply Kd.R_alloc | apply Kd.R_drewN | apply Kd.R_drew)); exact HO_21.out) rfl hg (fun k_ e_ => (HL176_0.out.1 k_ e_).1)); have n1_ := Aside0.mk (hb); have n2_ := Aside0.mk (Kd.H_grown (Kd.H_widen (by repeat (first | exact HH20.out | refine Kd.H_alloc ?_ _ | refine Kd.H_drewN ?_ _ | refine Kd.H_drew ?_))) hg (fun k_ e_ => .inl (UU20.out.1 k_ e_))); have n3_ := Aside0.mk (ho); clear HO_21; clear HB; clear HH20; clear HO_3; clear UU20; clear HL176_0; have HO_21 := n0_; have HB := n1_; have HH20 := n2_; have HO179 := n3_; clear n0_ n1_ n2_ n3_; clear ho hb hg hat; have p18 : 0 ≤ ((rd t172 x23_2) : Int) := of_decide_eq_true (by first | (with_reducible assumption) | assumption); have q18 : ((rd t172 x23_2) : Int) < ((x3_2.length : Int) : Int) := of_decide_eq_true (by first | (with_reducible assumption) | assumption); replace p18 := eq_true p18; replace q18 := eq_true q18; obtain ⟨Ao24, co24, eo24⟩ := Kd.R_slice HO179.out; subst eo24; obtain ⟨_, _, hraw22, _, _, hcc22, _⟩ := Kd.H_raw HH20.out (of_decide_eq_true (by first | (with_reducible assumption) | assumption)) (by have h_ : ((rd t172 x23_2) : Int) < ((x3_2.length : Int) : Int) := of_decide_eq_true (by first | (with_reducible assumption) | assumption); first | exact h_ | (have e_ := (HN20.out); omega) | simpa using h_); obtain ⟨_, hfr22⟩ := Kd.H_at HH20.out (of_decide_eq_true (by first | (with_reducible assumption) | assumption)) (by have h_ : ((rd t172 x23_2) : Int) < ((x3_2.length : Int) : Int) := of_decide_eq_true (by first | (with_reducible assumption) | assumption); first | exact h_ | (have e_ := (HN20.out); omega) | simpa using h_); have hx22_0 := hcc22 0 _ rfl; have hf22_0 := hfr22 0; (try simp only [Nat.add_zero] at hx22_0 hf22_0); (try rw [show ((Kd.slice 3 (Kd.int .i64))).sz = 1 from rfl, Nat.mul_one] at hx22_0); (try rw [show ((Kd.slice 3 (Kd.int .i64))).sz = 1 from rfl, Nat.mul_one] at hf22_0); have HP22 := Kd.S_seg0 HH20.out (of_decide_eq_true (by first | (with_reducible assumption) | assumption)) (by have h_ : ((rd t172 x23_2) : Int) < ((x3_2.length : Int) : Int) := of_decide_eq_true (by first | (with_reducible assumption) | assumption); first | exact h_ | (have e_ := (HN20.out); omega) | simpa using h_) (seg := [.slice Ao24 y177.length co24]) (j := 0) (show 1 ≤ 1 from by decide) (x' := y177) (Kd.M_row HO179.out) (fun _ hk => hk); (try simp only [show ((Kd.slice 3 (Kd.int .i64))).sz = 1 from rfl, Nat.mul_one, Nat.add_zero] at HP22); clear hcc22 hfr22) | ((with_reducible refine gate_store (t := 80) (p := 36) rfl ?_); refine store_event (t := 80) (p := 36) (v := ?vo_w23) (w1 := (w21.setCell ⟨go20, ((rd t172 x23_2) : Int).toNat, none⟩ (.slice Ao24 y177.length co24))) ?hg ?ho ?hn ?hr ?_; (case ho => rfl); (case hg => rfl); (case hn => rfl); (case hr => first | (go_simp; done) | (go_simp; rfl)); intro w23 hw; have hg : w21.grownBy w23 (some go20) := (by rw [hw]; exact HP22.2); have hp_ : Kd.S (Kd.slice 3 (Kd.int .i64)) 80 w23 w.heap.size (fun k_ => some k_ ≠ (.slice (some ad175) t172.length co11 : Value).ownBlock) (.slice (some ⟨go20, 0, none⟩) x3_2.length co19) y180 := (by rw [hw, Ny180.out]; exact HP22.1); clear HP22; have n0_ := Aside0.mk (Kd.R_over' (v := (.slice (some ⟨go20, 0, none⟩) x3_2.length co19)) (by (with_reducible repeat (first | apply Kd.R_alloc | apply Kd.R_drewN | apply Kd.R_drew)); exact HO_21.out) (Kd.R_typed hraw22) (by decide) hg); have n1_ := Aside0.mk ((by rw [hw]; exact below_set HB.out GB20.out : Below w.heap.size w w23)); have n2_ := Aside0.mk (hp_); clear HO_21; clear HB; clear HO179; clear HH20; have HO_21 := n0_; have HB := n1_; have HO_3 := n2_; clear n0_ n1_ n2_; clear hg hw hp_ hraw22))
                go_roundg k2
                case measure => have := HK1.out; have := HK2.out; omega
                case rel => exact ⟨(y180), (wrap64 (x23_2 + 1)), (by first | rfl | (simp; done) | (simp [*]; done)), H', ⟨by have := HK1.out; have := HK2.out; omega⟩, ⟨by (with_reducible repeat (first | apply Kd.S_alloc | apply Kd.S_drewN | apply Kd.S_drew)); exact HO_3.out⟩, ⟨by (with_reducible repeat (first | apply Kd.R_alloc | apply Kd.R_drewN | apply Kd.R_drew)); exact HO_21.out⟩, ⟨by repeat (first | (with_reducible first | exact HB.out | apply below_alloc | apply pw_below_drewN | apply below_drew1) | exact HB.out)⟩⟩
               ·rw [if_neg c17] at H
                exact absurd H (by simp)
              ·rw [if_neg c16] at H
               exact absurd H (by simp)
             ·rw [if_neg c15] at H
              exact absurd H (by simp)
            ·rw [if_neg c14] at H
             exact absurd H (by simp)
           ·rw [if_neg c13] at H
            exact absurd H (by simp)
          ·rw [if_neg c12] at H
           have c12b0 : decide (x23_2 < (t172.length : Int)) = false := decide_eq_false c12
           clear c12
           have H' := Aside0.mk H
           clear H
           go_wp2
           go_roundg k2
           case measure => have := HK1.out; have := HK2.out; omega
           case rel => exact ⟨(x3_2), (wrap64 (x13_1 + 1)), (by first | rfl | (simp; done) | (simp [*]; done)), H', ⟨by have := HK1.out; have := HK2.out; omega⟩, ⟨by (with_reducible repeat (first | apply Kd.S_alloc | apply Kd.S_drewN | apply Kd.S_drew)); exact Kd.S_mono HO_3.out (fun _ hk => trivial)⟩, ⟨by repeat (first | (with_reducible first | exact HB.out | apply below_alloc | apply pw_below_drewN | apply below_drew1) | exact HB.out)⟩⟩
       ·rw [if_neg c8] at H
        exact absurd H (by simp)
      ·rw [if_neg c7] at H
       exact absurd H (by simp)
     ·rw [if_neg c6] at H
      have c6b0 : decide (x13_1 < (l0.length : Int)) = false := decide_eq_false c6
      clear c6
      obtain rfl := Option.some.inj H
      go_wp2
      go_ret
      exact ⟨_, by first | rfl | (simp [errW_none, errW_some] <;> rfl) | (simp [*, errW_none, errW_some] <;> rfl), by (with_reducible repeat (first | apply Kd.S_alloc | apply Kd.S_drewN | apply Kd.S_drew)); exact HO_3.out, by repeat (first | (with_reducible first | exact HB.out | apply below_alloc | apply pw_below_drewN | apply below_drew1) | exact HB.out)⟩
  ·rw [if_neg c3] at H
   exact absurd H (by simp)
 ·rw [if_neg c2] at H
  exact absurd H (by simp)

/-! ### touch_All: function 52 -/
def touch_All.l0 : Nat → Int → Int → List Int → Int → Int → Option (Int × Int)
 | 0, _, _, _, _, _ => none
 | k + 1, x2, x3, x6, x7, x8 => if x8 < x7 then (if 0 ≤ x8 then (if x8 < (x6.length : Int) then ((touch_Reads.f k (rd x6 x8)).bind fun t182 => ((touch_Writes.f k (rd x6 x8)).bind fun t183 => (touch_All.l0 k (Go.bits .or .u16 x2 (Go.bits .andNot .u16 t182 x3)) (Go.bits .or .u16 x3 t183) x6 x7 (wrap64 (x8 + 1))))) else (none)) else (none)) else (some (x2, x3))
def touch_All.f (k : Nat) (l0 : List Int) : Option (Int × Int) := touch_All.l0 k 0 0 l0 (l0.length : Int) 0
theorem touch_All.mono_l : ∀ k, (∀ y0 y1 y2 y3 y4, LeO (touch_All.l0 k y0 y1 y2 y3 y4) (touch_All.l0 (k + 1) y0 y1 y2 y3 y4))
 | 0 => fun _ _ _ _ _ r h => by simp [touch_All.l0] at h
 | k + 1 => by
  have ih0 := touch_All.mono_l k
  ·intro y0 y1 y2 y3 y4
   unfold touch_All.l0
   repeat' first
   | (with_reducible exact ih0 _ _ _ _ _)
   | (with_reducible exact touch_Reads.mono _ _)
   | (with_reducible exact touch_Writes.mono _ _)
   | (with_reducible exact LeO.refl _)
   | (with_reducible exact LeO.none _)
   | (with_reducible refine LeO.ite ?_ ?_)
   | (with_reducible refine LeO.bind ?_ (fun _ => ?_))
   | exact ih0 _ _ _ _ _
   | exact touch_Reads.mono _ _
   | exact touch_Writes.mono _ _
   | exact LeO.none _
   | refine LeO.ite ?_ ?_
   | refine LeO.bind ?_ (fun _ => ?_)
theorem touch_All.mono : ∀ a0 k, LeO (touch_All.f k a0) (touch_All.f (k + 1) a0) := by
 intro a0 k
 have ih0 := touch_All.mono_l k
 unfold touch_All.f
 repeat' first
   | (with_reducible exact ih0 _ _ _ _ _)
   | (with_reducible exact touch_Reads.mono _ _)
   | (with_reducible exact touch_Writes.mono _ _)
   | (with_reducible exact LeO.refl _)
   | (with_reducible exact LeO.none _)
   | (with_reducible refine LeO.ite ?_ ?_)
   | (with_reducible refine LeO.bind ?_ (fun _ => ?_))
   | exact ih0 _ _ _ _ _
   | exact touch_Reads.mono _ _
   | exact touch_Writes.mono _ _
   | exact LeO.none _
   | refine LeO.ite ?_ ?_
   | refine LeO.bind ?_ (fun _ => ?_)
set_option maxHeartbeats 8000000 in
set_option maxRecDepth 100000 in
theorem touch_All.calls (k : Nat) (A0 : Option Addr) (c0 : Nat) (l0 : List Int) (r1 : Int) (r2 : Int) (w : World) (hr0 : Kd.C (Kd.int .u32) w A0 l0.length l0) (hc0 : l0.length ≤ c0) (h : touch_All.f k l0 = some (r1, r2)) :
  Calls Try.prog 52 #[.slice A0 l0.length c0] w fun e w' => e = .returned (.tuple #[.int .u16 r1, .int .u16 r2]) ∧ Below w.heap.size w w' := by
 have HR0 := Aside0.mk hr0
 have HC0 := Aside0.mk hc0
 clear hr0 hc0
 have HB := Aside0.mk (Below.refl w.heap.size w)
 have H : (touch_All.l0 k 0 0 l0 (l0.length : Int) 0) = some (r1, r2) := h
 clear h
 have H' := Aside0.mk H
 clear H
 go_enter Try.func52, Try.ntmps52
 go_wp2
 go_loopg [2, 3, 8] k (fun kq v2 v3 v8 w' => ∃ (x2_1 : Int) (x3_1 : Int) (x8_1 : Int), v2 = .int .u16 x2_1 ∧ v3 = .int .u16 x3_1 ∧ v8 = .int .i64 x8_1 ∧ Aside0 (touch_All.l0 kq x2_1 x3_1 l0 (l0.length : Int) x8_1 = some (r1, r2)) ∧ Aside0 (kq ≤ k) ∧ Aside0 (Below w.heap.size w w'))
 case atStart => exact ⟨(0), (0), (0), (by first | rfl | (simp; done) | (simp [*]; done)), (by first | rfl | (simp; done) | (simp [*]; done)), (by first | rfl | (simp; done) | (simp [*]; done)), H', ⟨Nat.le_refl _⟩, ⟨by repeat (first | (with_reducible first | exact HB.out | apply below_alloc | apply pw_below_drewN | apply below_drew1) | exact HB.out)⟩⟩
 case round =>
  clear H'
  obtain ⟨x2_1, x3_1, x8_1, rfl, rfl, rfl, HA, HK1, HB⟩ := hrel
  cases gk with
  | zero => exact absurd HA.out (by simp [touch_All.l0])
  | succ k1 =>
   have H := HA.out
   clear HA
   simp only [touch_All.l0] at H
   by_cases c2 : x8_1 < (l0.length : Int)
   ·rw [if_pos c2] at H
    have c2b0 : decide (x8_1 < (l0.length : Int)) = true := decide_eq_true c2
    clear c2
    by_cases c3 : 0 ≤ x8_1
    ·rw [if_pos c3] at H
     have c3b0 : decide (0 ≤ x8_1) = true := decide_eq_true c3
     clear c3
     by_cases c4 : x8_1 < (l0.length : Int)
     ·rw [if_pos c4] at H
      have c4b0 : decide (x8_1 < (l0.length : Int)) = true := decide_eq_true c4
      clear c4
      replace H := Option.bind_eq_some_iff.mp H
      obtain ⟨t182, A50, H⟩ := H
      replace H : ((touch_Writes.f k1 (rd l0 x8_1)).bind fun t183 => (touch_All.l0 k1 (Go.bits .or .u16 x2_1 (Go.bits .andNot .u16 t182 x3_1)) (Go.bits .or .u16 x3_1 t183) l0 (l0.length : Int) (wrap64 (x8_1 + 1)))) = some (r1, r2) := H
      have A5 := Aside0.mk A50
      clear A50
      replace H := Option.bind_eq_some_iff.mp H
      obtain ⟨t183, A60, H⟩ := H
      replace H : (touch_All.l0 k1 (Go.bits .or .u16 x2_1 (Go.bits .andNot .u16 t182 x3_1)) (Go.bits .or .u16 x3_1 t183) l0 (l0.length : Int) (wrap64 (x8_1 + 1))) = some (r1, r2) := H
      have A6 := Aside0.mk A60
      clear A60
      have H' := Aside0.mk H
      clear H
      have p181 : 0 ≤ (x8_1 : Int) := of_decide_eq_true (by first | (with_reducible assumption) | assumption)
      have q181 : x8_1 < (l0.length : Int) := of_decide_eq_true (by first | (with_reducible assumption) | assumption)
      obtain ⟨ad181, e181, hx181_0⟩ := Kd.at_int HR0.out x8_1 p181 q181
      cases e181
      replace hx181_0 := (HB.out.cell (World.block_lt_of_cell? w _ hx181_0)).trans hx181_0
      replace p181 := eq_true p181
      replace q181 := eq_true q181
      go_wp2_with (first | ((with_reducible refine gate_callee (f := 29) rfl ?_); refine goesL_ (some 14) rfl rfl Try.func29 (by kernel_rfl) rfl #[.int .u32 (rd l0 x8_1)] rfl (by (try simp only [List.map_toArray, List.map_cons, List.map_nil]); first | done | rfl | (simp only [List.length_drop, List.length_take]; rfl)) ?_; (with_reducible refine (touch_Reads.calls k1 (rd l0 x8_1) t182 _ A5.out).mono ?_); rintro e w7 ⟨rfl, hb⟩; refine ⟨_, rfl, ?_⟩; have n0_ := Aside0.mk (below_step (by repeat (first | (with_reducible first | exact HB.out | apply below_alloc | apply pw_below_drewN | apply below_drew1) | exact HB.out)) hb); clear HB; have HB := n0_; clear n0_; (try clear hb); (try clear hb2); (try clear hk); (try clear hi)) | ((with_reducible refine gate_callee (f := 30) rfl ?_); refine goesL_ (some 20) rfl rfl Try.func30 (by kernel_rfl) rfl #[.int .u32 (rd l0 x8_1)] rfl (by (try simp only [List.map_toArray, List.map_cons, List.map_nil]); first | done | rfl | (simp only [List.length_drop, List.length_take]; rfl)) ?_; (with_reducible refine (touch_Writes.calls k1 (rd l0 x8_1) t183 _ A6.out).mono ?_); rintro e w8 ⟨rfl, hb⟩; refine ⟨_, rfl, ?_⟩; have n0_ := Aside0.mk (below_step (by repeat (first | (with_reducible first | exact HB.out | apply below_alloc | apply pw_below_drewN | apply below_drew1) | exact HB.out)) hb); clear HB; have HB := n0_; clear n0_; (try clear hb); (try clear hb2); (try clear hk); (try clear hi)))
      go_roundg k1
      case measure => have := HK1.out; omega
      case rel => exact ⟨(Go.bits .or .u16 x2_1 (Go.bits .andNot .u16 t182 x3_1)), (Go.bits .or .u16 x3_1 t183), (wrap64 (x8_1 + 1)), (by first | rfl | (simp; done) | (simp [*]; done)), (by first | rfl | (simp; done) | (simp [*]; done)), (by first | rfl | (simp; done) | (simp [*]; done)), H', ⟨by have := HK1.out; omega⟩, ⟨by repeat (first | (with_reducible first | exact HB.out | apply below_alloc | apply pw_below_drewN | apply below_drew1) | exact HB.out)⟩⟩
     ·rw [if_neg c4] at H
      exact absurd H (by simp)
    ·rw [if_neg c3] at H
     exact absurd H (by simp)
   ·rw [if_neg c2] at H
    have c2b0 : decide (x8_1 < (l0.length : Int)) = false := decide_eq_false c2
    clear c2
    simp only [Option.some.injEq, Prod.mk.injEq] at H
    obtain ⟨rfl, rfl⟩ := H
    go_wp2
    go_ret2
    exact ⟨by first | rfl | (simp [errW_none, errW_some] <;> rfl) | (simp [*, errW_none, errW_some] <;> rfl), by repeat (first | (with_reducible first | exact HB.out | apply below_alloc | apply pw_below_drewN | apply below_drew1) | exact HB.out)⟩

/-! ### live_Blocks: function 46 -/
-- IMPORTS Derived.Maps.Range Derived.Maps.OwnSet Derived.Maps.RangeWalk Derived.Deep.RegionHeld3
/- live.Blocks, of an image of one block without a way on: elsewhere nothing is said (the model does not follow the range there). -/
theorem one_put {P : Program} {t k e : TypeId} {w : World} {b : Nat} (ht : P.underlying t = some (.map k e)) (hk : P.underlying k = some (.int .i64)) (hb : w.heap[b]? = some (.map #[] 0)) :
  (Instr.mapUpdate t (.map (some b)) (.int .i64 0) (.bool true)).run P w = .ok () (Go.ChangeMaps.setBlock w b (.map #[⟨.int .i64 0, .bool true, 0⟩] 1)) := by
 have K := Maps.int_keyed hk
 have hkey := Maps.keyOf_int_mk (P := P) hk (a := 0) (by decide)
 rcases K.find w hkey [] (by simp) with ⟨h1, h2⟩ | ⟨j, e0, h1, h2, h3⟩
 ·simp [Instr.mapUpdate, run_underlying ht, MapKept.run_getObj_map hb, K.check w _ hkey, h1, MapKept.run_setObj_map _ hb, Result.andThen, Go.ChangeMaps.setBlock]
 ·simp at h2
theorem one_len {P : Program} {t k e : TypeId} {w : World} {b : Nat} {es : Array MapEntry} {c : Nat} (ht : P.underlying t = some (.map k e)) (hb : w.heap[b]? = some (.map es c)) (ty : TypeId) :
  (Builtin.len_ #[t] ty #[.map (some b)]).run P w = .ok (.int .i64 es.size) w := by
 simp [Builtin.len_, run_underlying ht, MapKept.run_getObj_map hb, goInt, Result.andThen]
theorem one_drop {P : Program} {t k e : TypeId} {w : World} {b : Nat} (ht : P.underlying t = some (.map k e)) (hk : P.underlying k = some (.int .i64)) (hb : w.heap[b]? = some (.map #[⟨.int .i64 0, .bool true, 0⟩] 1)) (ty : TypeId) :
  (Builtin.delete_ #[t, k] ty #[.map (some b), .int .i64 0]).run P w = .ok (.tuple #[]) (Go.ChangeMaps.setBlock w b (.map #[] 1)) := by
 have K := Maps.int_keyed hk
 have hkey := Maps.keyOf_int_mk (P := P) hk (a := 0) (by decide)
 rcases K.find w hkey [⟨.int .i64 0, .bool true, 0⟩] (by simp; exact ⟨_, hkey⟩) with ⟨h1, h2⟩ | ⟨j, e0, h1, h2, h3⟩
 ·simp at h2
 ·have hj : j = 0 := by
   rcases j with _ | j
   ·rfl
   ·simp at h2
  subst hj
  simp [Builtin.delete_, run_underlying ht, MapKept.run_getObj_map hb, K.check w _ hkey, h1, MapKept.run_setObj_map _ hb, Result.andThen, Go.ChangeMaps.setBlock]
theorem one_next {P : Program} {w : World} {b r : Nat} (hb : w.heap[b]? = some (.map #[⟨.int .i64 0, .bool true, 0⟩] 1)) (hr : w.heap[r]? = some (.mapIter (some b) 1 #[] 1)) (ty : TypeId) :
  (Instr.next (.pointer (some ⟨r, 0, none⟩)) false ty).run P w = .ok (.tuple #[.bool true, .int .i64 0, .bool true]) (Go.ChangeMaps.setBlock w r (.mapIter (some b) 1 #[0] 1)) := by
 simp [Instr.next, getObj, Sem.run_bind, Sem.run, hr, hb, Result.andThen, choose, Question.forced, setObj, Go.ChangeMaps.setBlock]
theorem one_over {P : Program} {w : World} {b r : Nat} (hb : w.heap[b]? = some (.map #[] 1)) (hr : w.heap[r]? = some (.mapIter (some b) 1 #[0] 1)) (ty : TypeId) :
  (Instr.next (.pointer (some ⟨r, 0, none⟩)) false ty).run P w = .ok (.tuple #[.bool false]) w := by
 simp [Instr.next, getObj, Sem.run_bind, Sem.run, hr, hb, Result.andThen, choose, Question.forced]
theorem one_entry {P : Program} {w : World} {b r : Nat} (hb : w.heap[b]? = some (.map #[⟨.int .i64 0, .bool true, 0⟩] 1)) (hr : w.heap[r]? = some (.mapIter (some b) 1 #[0] 1)) :
  (Instr.entry (.pointer (some ⟨r, 0, none⟩))).run P w = .ok (.tuple #[.int .i64 0, .bool true]) w := by
 simp [Instr.entry, getObj, Sem.run_bind, Sem.run, hr, hb, Result.andThen]
theorem made1 (z : Value) : madeCells #[z] 1 = #[z] := by
 apply Array.ext
 ·simp [size_madeCells]
 ·intro i h1 h2
  have : i = 0 := by
   simp at h2
   omega
  subst this
  simp [madeCells]
theorem wpList_next_run {P : Program} {ops : Array Oper} {Q : Exit → Act → World → Prop} {rest : List Oper} {o : Oper} {a : Act} {w w' : World} {v r : Value} (hg : o.guard = none) (it : Operand) (hop : o.op = Op.next it false) (hit : a.eval it = v)
  (hrun : ∀ ty, (Instr.next v false ty).run P w = .ok r w') (hK : wpList P ops Q rest (a.put o.dst r) w') : wpList P ops Q (o :: rest) a w := by
 refine wpList_plain hg fun K' hK' => ?_
 unfold Oper.wp
 simp [execOp, hop, hit, hrun, Result.andThen]
 exact hK' _ _ hK
theorem one_row {w : World} {A : Option Addr} {e : TypeId} (h : Kd.C (Kd.slice e (Kd.int .i64)) w A 1 [[]]) : ∃ ad A0 c0, A = some ad ∧ w.cell? ad = some (.slice A0 0 c0) := by
 obtain ⟨ad, c, e, _, hK, hc0⟩ := Kd.C_get h ([] : List Int) 0 (by decide) (by decide)
 have hc : ∀ j u, c[j]? = some u → w.cell? (ad.add (0 * 1 + j)) = some u := hc0
 obtain ⟨A0, c0, rfl, l0, g0⟩ := hK
 exact ⟨ad, A0, c0, e, by have h0 := hc 0 _ rfl; rwa [show ad.add (0 * 1 + 0) = ad by simp [Addr.add]] at h0⟩
theorem one_own {W : World} {base g e : Nat} {x : Int} (h : W.heap[g]? = some (.cells #[.int .u16 x] e (0, 0))) (hb : base ≤ g) {ok : Nat → Prop} (hok : ok g) : (Kd.int .u16).R e W base ok (.slice (some ⟨g, 0, none⟩) 1 1) [x] :=
 Kd.R_of_own (xs := [x]) ⟨rfl, .inr ⟨g, 1, _, rfl, hb, h, Nat.le_refl _, by decide, rfl, rfl⟩⟩ (fun k hk => by cases hk; exact hok)
def live_Blocks.f (k : Nat) (l0_0 : List Int) (a0_1 : Int) (l0_2 : List Int) : Option ((List Int) × (List Int) × Int) :=
 (block_Blocks.f k l0_0 a0_1 l0_2).bind fun p => if p.2 = 0 then
  (edge_Edges.f k l0_0 a0_1 l0_2).bind fun q => (edge_Back.f k q.1).bind fun bk =>
   if p.1.map (fun b => (b.f0, b.f1)) = [(0, (l0_0.length : Int))] ∧ q.1 = [[]] ∧ bk = [[]] ∧ l0_0.length ≤ 16384 then (touch_All.f k l0_0).bind fun t => some ([Go.bits .or .u16 t.1 (Go.bits .andNot .u16 0 t.2)], [0], 0) else none
 else some ([], [], p.2)
theorem live_Blocks.mono : ∀ a0 a1 a2 k, LeO (live_Blocks.f k a0 a1 a2) (live_Blocks.f (k + 1) a0 a1 a2) := by
 intro a0 a1 a2 k
 refine LeO.bind (block_Blocks.mono _ _ _ _) (fun p => LeO.ite (LeO.bind (edge_Edges.mono _ _ _ _) (fun q => LeO.bind (edge_Back.mono _ _) (fun bk => LeO.ite (LeO.bind (touch_All.mono _ _) (fun t => LeO.refl _)) (LeO.refl _)))) (LeO.refl _))
set_option maxHeartbeats 16000000 in
set_option maxRecDepth 100000 in
theorem live_Blocks.calls (k : Nat) (A0_0 : Option Addr) (c0_0 : Nat) (l0_0 : List Int) (a0_1 : Int) (A0_2 : Option Addr) (c0_2 : Nat) (l0_2 : List Int) (r1 : List Int) (r2 : List Int) (r3 : Int) (w : World) (hr0_0 : Kd.C (Kd.int .u32) w A0_0 l0_0.length l0_0) (hc0_0 : l0_0.length ≤ c0_0) (hr0_2 : Kd.C (Kd.int .i64) w A0_2 l0_2.length l0_2) (hc0_2 : l0_2.length ≤ c0_2) (h : live_Blocks.f k l0_0 a0_1 l0_2 = some (r1, r2, r3)) :
  Calls Try.prog 46 #[.agg #[.slice A0_0 l0_0.length c0_0, .int .i64 a0_1, .slice A0_2 l0_2.length c0_2]] w fun e w' => ∃ v0_ v1_ : Value, e = .returned (.tuple #[v0_, v1_, .int .i64 r3]) ∧ Kd.R (Kd.int .u16) 65 w' w.heap.size (fun k_ => some k_ ≠ (v1_ : Value).ownBlock) v0_ r1 ∧ Kd.R (Kd.int .u16) 65 w' w.heap.size (fun k_ => some k_ ≠ (v0_ : Value).ownBlock) v1_ r2 ∧ Below w.heap.size w w' := by
 replace h := Option.bind_eq_some_iff.1 h
 obtain ⟨⟨bs, e0⟩, h1, h⟩ := h
 have HR0_0 := Aside0.mk hr0_0
 have HC0_0 := Aside0.mk hc0_0
 have HR0_2 := Aside0.mk hr0_2
 have HC0_2 := Aside0.mk hc0_2
 have H1 := Aside0.mk h1
 clear hr0_0 hc0_0 hr0_2 hc0_2 h1
 by_cases he : e0 = 0
 case neg =>
  simp only [if_neg he, Option.some.injEq, Prod.mk.injEq] at h
  obtain ⟨rfl, rfl, rfl⟩ := h
  have he1 : (e0 != 0) = true := bne_iff_ne.mpr he
  clear he
  go_enter Try.func46, Try.ntmps46
  go_wp2_with fail
  refine (block_Blocks.calls k A0_0 c0_0 l0_0 a0_1 A0_2 c0_2 l0_2 bs e0 _ (Kd.C_alloc HR0_0.out _) HC0_0.out (Kd.C_alloc HR0_2.out _) HC0_2.out H1.out).mono ?_
  rintro e w1 ⟨v, rfl, hv, hb⟩
  have HB := Aside0.mk (below_then (below_alloc (Below.refl w.heap.size w) _) (by simp) hb)
  clear hb hv
  go_wp2_with fail
  go_ret3
  exact ⟨_, _, rfl, Kd.R_nil _ _ _ _ _, Kd.R_nil _ _ _ _ _, HB.out⟩
 subst he
 simp only [if_true] at h
 replace h := Option.bind_eq_some_iff.1 h
 obtain ⟨⟨es, e1⟩, h2, h⟩ := h
 replace h := Option.bind_eq_some_iff.1 h
 obtain ⟨bk, h3, h⟩ := h
 by_cases hg : bs.map (fun b => (b.f0, b.f1)) = [(0, (l0_0.length : Int))] ∧ es = [[]] ∧ bk = [[]] ∧ l0_0.length ≤ 16384
 case neg => rw [if_neg hg] at h; cases h
 rw [if_pos hg] at h
 replace h := Option.bind_eq_some_iff.1 h
 obtain ⟨⟨t1, t2⟩, h4, h⟩ := h
 simp only [Option.some.injEq, Prod.mk.injEq] at h
 obtain ⟨hr1, rfl, rfl⟩ := h
 obtain ⟨hbs, rfl, rfl, hlen⟩ := hg
 obtain ⟨bb, rfl⟩ : ∃ b, bs = [b] := by
  rcases bs with _ | ⟨b, _ | ⟨c, r⟩⟩
  ·simp at hbs
  ·exact ⟨b, rfl⟩
  ·simp at hbs
 simp only [List.map_cons, List.map_nil, List.cons.injEq, Prod.mk.injEq, and_true] at hbs
 obtain ⟨hf0, hf1⟩ := hbs
 have H2 := Aside0.mk h2
 have H3 := Aside0.mk h3
 have H4 := Aside0.mk h4
 have HR1 := Aside0.mk hr1
 clear h2 h3 h4 hr1
 have hmm := @run_makeMap Try.prog
 obtain ⟨ii, hii, _, hisz, _⟩ := info_parts info29
 obtain ⟨AS, hcut, hAS, _⟩ := print_mid_of (P := Try.prog) (Value.int .u32) 0 22 29 .i64 .i64 Try.underlying22 hii hisz A0_0 c0_0 l0_0 0 l0_0.length (by omega) (by omega) (by omega) HC0_0.out
 simp only [Int.toNat_natCast, Int.toNat_zero, List.take_length, List.drop_zero, Nat.sub_zero] at hcut hAS
 have HAS := Aside0.mk (Kd.C_of_reads (h1 := fun _ => rfl) (hAS w (Kd.reads_of_C HR0_0.out)))
 replace hcut := Aside0.mk hcut
 clear hii hisz hAS
 go_enter Try.func46, Try.ntmps46
 go_wp2_with fail
 refine (block_Blocks.calls k A0_0 c0_0 l0_0 a0_1 A0_2 c0_2 l0_2 _ 0 _ (Kd.C_alloc HR0_0.out _) HC0_0.out (Kd.C_alloc HR0_2.out _) HC0_2.out H1.out).mono ?_
 rintro e w1 ⟨v, rfl, hv, hb⟩
 obtain ⟨AL, cL, rfl, hcL, hC⟩ := Kd.R_reads hv
 have HB := Aside0.mk (below_then (below_alloc (Below.refl w.heap.size w) _) (by simp) hb)
 obtain ⟨adL, eL, hL0, hL1⟩ := at_T68 hC 0 (by decide) (by simp)
 subst eL
 rw [show adL.add ((0 : Int).toNat * 2) = adL by simp [Addr.add]] at hL0 hL1
 replace hL0 := Aside0.mk (hL0.trans (by rw [show (rd_T68 [bb] 0).f0 = 0 from hf0]))
 replace hL1 := Aside0.mk (hL1.trans (by rw [show (rd_T68 [bb] 0).f1 = (l0_0.length : Int) from hf1]))
 have HG := Aside0.mk ((hb.block w.heap.size (by simp)).trans (heap_alloc_new w _))
 have hg0 := (blk_cell HG.out 0).trans rfl
 have hg1 := (blk_cell HG.out 1).trans rfl
 have hg2 := (blk_cell HG.out 2).trans rfl
 clear hb hC hv
 go_wp2_with fail
 refine (edge_Edges.calls k A0_0 c0_0 l0_0 a0_1 A0_2 c0_2 l0_2 [[]] e1 _ (Kd.C_below HR0_0.out HB.out) HC0_0.out (Kd.C_below HR0_2.out HB.out) HC0_2.out H2.out).mono ?_
 rintro e w2 ⟨vE, rfl, hv, hb⟩
 obtain ⟨AE, cE, rfl⟩ := Kd.S_slice hv
 obtain ⟨adE, A0E, c0E, rfl, hcE⟩ := one_row (Kd.S_reads' hv).2.2
 replace hcE := Aside0.mk hcE
 have HE := Aside0.mk hv
 have HB2 := Aside0.mk hb
 clear hb hv hg0 hg1 hg2
 go_wp2_with fail
 refine (edge_Back.calls k (some adE) cE [[]] [[]] _ (Kd.S_reads' HE.out).2.2 (Kd.S_reads' HE.out).2.1 H3.out).mono ?_
 rintro e w3 ⟨vK, rfl, hv, hb⟩
 obtain ⟨AK, cK, rfl⟩ := Kd.S_slice hv
 obtain ⟨adK, A0K, c0K, rfl, hcK⟩ := one_row (Kd.S_reads' hv).2.2
 replace hcK := Aside0.mk hcK
 have HK := Aside0.mk hv
 have HB3 := Aside0.mk hb
 clear hb hv
 have hms : ∀ W : World, (Instr.makeSlice 45 (.int .i64 1) (.int .i64 1)).run Try.prog W = .ok (.slice (some ⟨W.heap.size, 0, none⟩) 1 1) (W.alloc (.cells #[.int .u16 0] 65)) := fun W => (print_make_int 45 65 (.int .u16 0) 2 Try.underlying45 info65 rfl (by decide) 1 (by decide) (by decide) W).trans (by rw [show (1 : Int).toNat = 1 from rfl, made1])
 go_wp2_with fail
 go_region_held3 (fun _ => True) (trivial) (fail)
 generalize hx1 : w3.heap.size + 1 = bo
 generalize hx2 : w3.heap.size = bi
 rotate_left
 generalize hx1 : w3.heap.size + 1 = bi
 generalize hx2 : w3.heap.size = bo
 all_goals
  obtain ⟨W0, hW0⟩ : ∃ W, W = ((w3.alloc (Obj.cells #[Value.int IntKind.u16 0] 65)).alloc (Obj.cells #[Value.int IntKind.u16 0] 65)).drew := ⟨_, rfl⟩
  rw [← hW0]
  have hs0 : W0.heap.size = w3.heap.size + 2 := by rw [hW0]; simp [World.drew]
  have hA : W0.heap[w3.heap.size]? = some (.cells #[.int .u16 0] 65 (0, 0)) := by rw [hW0]; exact blk_drew (blk_alloc (heap_alloc_new _ _) _)
  have hB : W0.heap[w3.heap.size + 1]? = some (.cells #[.int .u16 0] 65 (0, 0)) := by rw [hW0]; have := heap_alloc_new (w3.alloc (Obj.cells #[Value.int IntKind.u16 0] 65)) (Obj.cells #[Value.int IntKind.u16 0] 65); rw [show (w3.alloc (Obj.cells #[Value.int IntKind.u16 0] 65)).heap.size = w3.heap.size + 1 by simp] at this; exact blk_drew this
  have hb0 : Below w3.heap.size w3 W0 := by rw [hW0]; exact below_drew (below_alloc (below_alloc (Below.refl _ _) _) _)
  have hI0 : W0.heap[bi]? = some (.cells #[.int .u16 0] 65 (0, 0)) := by first | (rw [← hx1]; exact hB) | (rw [← hx2]; exact hA)
  have hO0 : W0.heap[bo]? = some (.cells #[.int .u16 0] 65 (0, 0)) := by first | (rw [← hx1]; exact hB) | (rw [← hx2]; exact hA)
  have hne : bi ≠ bo := by omega
  have hbi : w3.heap.size ≤ bi := by omega
  have hbo : w3.heap.size ≤ bo := by omega
  clear hA hB hx1 hx2 hW0
  have HS0 := Aside0.mk hs0
  have HI0 := Aside0.mk hI0
  have HO0 := Aside0.mk hO0
  have HBw := Aside0.mk hb0
  clear hI0 hO0 hb0 hms hs0
  have hu := Try.underlying91
  obtain ⟨bm, hbm⟩ : ∃ b, b = W0.heap.size := ⟨_, rfl⟩
  have hm0 : (W0.alloc (.map #[] 0)).heap[bm]? = some (.map #[] 0) := by rw [hbm]; exact heap_alloc_new _ _
  obtain ⟨W2, hr2, hm2, hg2⟩ : ∃ W2, (Instr.mapUpdate 91 (.map (some bm)) (.int .i64 0) (.bool true)).run Try.prog (W0.alloc (.map #[] 0)) = .ok () W2 ∧ W2.heap[bm]? = some (.map #[⟨.int .i64 0, .bool true, 0⟩] 1) ∧ (W0.alloc (.map #[] 0)).grownBy W2 (some bm) := ⟨_, one_put hu Try.underlying3 hm0, Go.ChangeMaps.heap_setBlock_same hm0 _, World.mapTurned.grown ⟨_, _, _, _, hm0, rfl⟩⟩
  have HM2 := Aside0.mk hm2
  have HG2 := Aside0.mk hg2
  rw [hbm] at hr2
  clear hm2 hg2
  go_wp2_with fail
  refine wp_loop_rounds 2 ?_
  rw [rounds_succ]
  go_wp2_with fail
  rw [rounds_succ]
  go_wp2_with fail
  have hl2 : ∀ ty, (Builtin.len_ #[91] ty #[.map (some W0.heap.size)]).run Try.prog W2 = .ok (.int .i64 1) W2 := fun ty => (one_len hu (by rw [← hbm]; exact HM2.out) ty).trans rfl
  obtain ⟨ri, hri⟩ : ∃ b, b = W2.heap.size := ⟨_, rfl⟩
  obtain ⟨W3, hr3, hm3, hi3, hb3⟩ : ∃ W3, (Instr.range 91 (.map (some W0.heap.size))).run Try.prog W2 = .ok (.pointer (some ⟨ri, 0, none⟩)) W3 ∧ W3.heap[bm]? = some (.map #[⟨.int .i64 0, .bool true, 0⟩] 1) ∧ W3.heap[ri]? = some (.mapIter (some bm) 1 #[] 1) ∧ Below W2.heap.size W2 W3 := ⟨_, by rw [← hbm, hri]; exact run_range_map W2 _ _ _ bm _ _ hu HM2.out, blk_alloc HM2.out _, by rw [hri]; exact heap_alloc_new _ _, below_alloc (Below.refl _ _) _⟩
  obtain ⟨W4, hr4, hi4, hg4⟩ : ∃ W4, (∀ ty, (Instr.next (.pointer (some ⟨ri, 0, none⟩)) false ty).run Try.prog W3 = .ok (.tuple #[.bool true, .int .i64 0, .bool true]) W4) ∧ W4.heap[ri]? = some (.mapIter (some bm) 1 #[0] 1) ∧ (∀ i, i ≠ ri → W4.heap[i]? = W3.heap[i]?) ∧ W4.os = W3.os ∧ W4.tape = W3.tape ∧ W4.output = W3.output ∧ W4.heap.size = W3.heap.size := ⟨_, fun ty => one_next hm3 hi3 ty, (MapKept.heap_set hi3).1, (MapKept.heap_set hi3).2, rfl, rfl, rfl, by simp [Go.ChangeMaps.setBlock]⟩
  have hrm : bm ≠ ri := by
   intro e
   rw [e, hri] at HM2
   exact absurd (blk_lt HM2.out) (by omega)
  have hm4 := (hg4.1 bm hrm).trans hm3
  have he4 := one_entry (P := Try.prog) hm4 hi4
  obtain ⟨W5, hr5, hm5, hg5⟩ : ∃ W5, (∀ ty, (Builtin.delete_ #[91, 3] ty #[.map (some W0.heap.size), .int .i64 0]).run Try.prog W4 = .ok (.tuple #[]) W5) ∧ W5.heap[bm]? = some (.map #[] 1) ∧ W4.grownBy W5 (some bm) := ⟨_, fun ty => by rw [← hbm]; exact one_drop hu Try.underlying3 hm4 ty, Go.ChangeMaps.heap_setBlock_same hm4 _, World.mapTurned.grown ⟨_, _, _, _, hm4, rfl⟩⟩
  have hi5 := blk_grown hi4 hg5 (by intro e; cases e; exact hrm rfl)
  have hb32 : bi ≠ bm ∧ bo ≠ bm ∧ bi ≠ ri ∧ bo ≠ ri := by
   have e1 := HS0.out
   have e2 := hbm
   have e3 := HG2.out.size
   simp at e3
   refine ⟨?_, ?_, ?_, ?_⟩ <;> first | (intro e; have := blk_lt HI0.out; have := blk_lt HO0.out; omega)
  have hI5 := blk_grown ((hg4.1 bi hb32.2.2.1).trans ((hb3.block bi (blk_lt (blk_grown (blk_alloc HI0.out _) HG2.out (by simp [hb32.1])))).trans (blk_grown (blk_alloc HI0.out _) HG2.out (by simp [hb32.1])))) hg5 (by simp [hb32.1])
  have hO5 := blk_grown ((hg4.1 bo hb32.2.2.2).trans ((hb3.block bo (blk_lt (blk_grown (blk_alloc HO0.out _) HG2.out (by simp [hb32.2.1])))).trans (blk_grown (blk_alloc HO0.out _) HG2.out (by simp [hb32.2.1])))) hg5 (by simp [hb32.2.1])
  have hB4 : Below w3.heap.size W3 W4 := ⟨hg4.2.1, hg4.2.2.1, hg4.2.2.2.1, Nat.le_of_eq hg4.2.2.2.2.symm, fun k hk => hg4.1 k (by intro e; have := HS0.out; have := HG2.out.size; simp at this; omega)⟩
  have hB2 : Below w3.heap.size w3 W2 := (below_alloc HBw.out (.map #[] 0)).grown HG2.out (by simp; have := HS0.out; omega) (fun k e => by cases e; have := HS0.out; omega)
  have hB5 : Below w3.heap.size w3 W5 := ((below_then hB2 hB2.size hb3).trans hB4).grown hg5 (by rw [hg4.2.2.2.2]; exact Nat.le_trans hB2.size hb3.size) (fun k e => by cases e; have := HS0.out; omega)
  clear hm0 hm3 hi3 hm4 hi4 hg4 hg5 hb3 hB4 hB2
  have HI5 := Aside0.mk hI5
  have HO5 := Aside0.mk hO5
  have HB5 := Aside0.mk hB5
  have HM5 := Aside0.mk hm5
  have HN5 := Aside0.mk hi5
  clear hI5 hO5 hB5 hm5 hi5 hrm
  replace hri := Aside0.mk hri
  replace hbm := Aside0.mk hbm
  have ho0 := (blk_cell HO5.out 0).trans rfl
  have hof := blk_frozen HO5.out 0
  have HS6 := Aside0.mk (below_set (j := 0) (v := .int .u16 0) HB5.out hbo)
  have hE6 := ((below_then HB3.out HB3.out.size HS6.out).cell (World.block_lt_of_cell? _ _ hcE.out)).trans hcE.out
  have hK6 := (HS6.out.cell (World.block_lt_of_cell? _ _ hcK.out)).trans hcK.out
  refine wp_loop_rounds 2 ?_
  rw [rounds_succ]
  go_wp2_with fail
  refine wp_loop_rounds 2 ?_
  rw [rounds_succ]
  go_wp2_with (first | (at_next; refine wpList_next_run (v := .pointer (some ⟨ri, 0, none⟩)) rfl (.tmp 56) rfl rfl hr4 ?_))
  refine wp_loop_rounds 1 ?_
  rw [rounds_succ]
  go_wp2_with fail
  have hG6 := ((below_then HB2.out HB2.out.size (below_then HB3.out HB3.out.size HS6.out)).block _ (blk_lt HG.out)).trans HG.out
  have k0 := (blk_cell hG6 0).trans rfl
  have k1 := ((below_then HB2.out HB2.out.size (below_then HB3.out HB3.out.size HS6.out)).cell (World.block_lt_of_cell? _ _ hL0.out)).trans hL0.out
  have k2 := ((below_then HB2.out HB2.out.size (below_then HB3.out HB3.out.size HS6.out)).cell (World.block_lt_of_cell? _ _ hL1.out)).trans hL1.out
  have hcut' := hcut.out
  have HB6 := Aside0.mk (below_then HB.out HB.out.size (below_then HB2.out HB2.out.size (below_then HB3.out HB3.out.size HS6.out)))
  clear hE6 hK6 hG6
  go_region_held3 (fun w' => w'.cell? ⟨w.heap.size, 0, none⟩ = some (.slice A0_0 l0_0.length c0_0) ∧ w'.cell? adL = some (.int .i64 0) ∧ w'.cell? ⟨adL.block, adL.off + 1, none⟩ = some (.int .i64 l0_0.length)) (first | exact ⟨k0, k1, k2⟩ | exact ⟨K0.out, K1.out, K2.out⟩)
   (first | (go_at_call 52; refine (touch_All.calls k AS c0_0 l0_0 t1 t2 _ (Kd.C_drew (Kd.C_below HAS.out HB6.out)) HC0_0.out H4.out).mono ?_; rintro e w7 ⟨rfl, hb⟩; have HB7 := Aside0.mk hb; have K0 := Aside0.mk ((hb.cell (World.block_lt_of_cell? _ _ k0)).trans k0); have K1 := Aside0.mk ((hb.cell (World.block_lt_of_cell? _ _ k1)).trans k1); have K2 := Aside0.mk ((hb.cell (World.block_lt_of_cell? _ _ k2)).trans k2); clear hb))
  have hO7 := blk_below (blk_drew (blk_set HO5.out 0 (.int .u16 0))) HB7.out
  have hI7 := blk_below (blk_drew (blk_far HI5.out (p := ⟨bo, 0, none⟩) hne (.int .u16 0))) HB7.out
  have hM7 := (HB7.out.block bm (by simp [World.drew, World.setCell]; exact blk_lt HM5.out)).trans ((Below.heap_setCell W5 ⟨bo, 0, none⟩ (.int .u16 0) bm (fun e => hb32.2.1 e.symm)).trans HM5.out)
  have hN7 := (HB7.out.block ri (by simp [World.drew, World.setCell]; exact blk_lt HN5.out)).trans ((Below.heap_setCell W5 ⟨bo, 0, none⟩ (.int .u16 0) ri (fun e => hb32.2.2.2 e.symm)).trans HN5.out)
  have hB7 := below_then (below_drew HS6.out) (by have := HS6.out.size; simpa [World.drew] using this) HB7.out
  have hE7 := (hB7.cell (World.block_lt_of_cell? _ _ hcK.out)).trans hcK.out
  clear k0 k1 k2 hcut' ho0 hof
  replace hO7 : w7.heap[bo]? = some (.cells #[.int .u16 0] 65 (0, 0)) := hO7
  obtain ⟨X, hX⟩ : ∃ X, X = Go.bits .or .u16 t1 (Go.bits .andNot .u16 0 t2) := ⟨_, rfl⟩
  have HX := Aside0.mk hX
  have ho7 := (blk_cell hO7 0).trans rfl
  have hi7 := (blk_cell hI7 0).trans rfl
  have hif := blk_frozen hI7 0
  have HO7 := Aside0.mk hO7
  have HI7 := Aside0.mk hI7
  have HM7 := Aside0.mk hM7
  have HN7 := Aside0.mk hN7
  have HBB := Aside0.mk hB7
  clear hO7 hI7 hM7 hN7 hB7 hr2 hl2 hr3 hr4 he4 hr5
  have hbase : w.heap.size ≤ w3.heap.size := Nat.le_trans HB.out.size (Nat.le_trans HB2.out.size HB3.out.size)
  by_cases hz : Go.bits .or .u16 t1 (Go.bits .andNot .u16 0 t2) = 0
  ·have hr9 : ∀ ty, (Instr.next (.pointer (some ⟨ri, 0, none⟩)) false ty).run Try.prog w7 = .ok (.tuple #[.bool false]) w7 := fun ty => one_over HM7.out HN7.out ty
   have hl9 : ∀ ty, (Builtin.len_ #[91] ty #[.map (some W0.heap.size)]).run Try.prog w7 = .ok (.int .i64 0) w7 := fun ty => (one_len hu (by rw [← hbm.out]; exact HM7.out) ty).trans rfl
   have hz1 : (Go.bits .or .u16 t1 (Go.bits .andNot .u16 0 t2) != 0) = false := by rw [hz]; rfl
   clear hX
   go_wp2_with fail
   rw [rounds_succ]
   go_wp2_with (first | (at_next; refine wpList_next_run (v := .pointer (some ⟨ri, 0, none⟩)) rfl (.tmp 56) rfl rfl hr9 ?_))
   rw [rounds_succ]
   go_wp2_with fail
   go_ret3
   refine ⟨_, _, rfl, ?_, one_own HO7.out (Nat.le_trans hbase hbo) (by intro e; cases e; exact hne rfl), below_then HB.out HB.out.size (below_then HB2.out HB2.out.size (below_then HB3.out HB3.out.size HBB.out))⟩
   rw [← HR1.out, hz]
   exact one_own HI7.out (Nat.le_trans hbase hbi) (by intro e; cases e; exact hne rfl)
  ·have hz1 : (Go.bits .or .u16 t1 (Go.bits .andNot .u16 0 t2) != 0) = true := bne_iff_ne.mpr hz
   have HM8 := (Below.heap_setCell w7 ⟨bi, 0, none⟩ (.int .u16 X) bm (fun e => hb32.1 e.symm)).trans HM7.out
   have HN8 := (Below.heap_setCell w7 ⟨bi, 0, none⟩ (.int .u16 X) ri (fun e => hb32.2.2.1 e.symm)).trans HN7.out
   have HI8 := Aside0.mk (blk_set HI7.out 0 (.int .u16 X))
   have HO8 := Aside0.mk (blk_far HO7.out (p := ⟨bi, 0, none⟩) (fun e => hne e.symm) (.int .u16 X))
   have HS8 := Aside0.mk (below_set (j := 0) (v := .int .u16 X) HBB.out hbi)
   have hK8 := (HS8.out.cell (World.block_lt_of_cell? _ _ hcK.out)).trans hcK.out
   have hr9 : ∀ ty, (Instr.next (.pointer (some ⟨ri, 0, none⟩)) false ty).run Try.prog (w7.setCell ⟨bi, 0, none⟩ (.int .u16 X)) = .ok (.tuple #[.bool false]) (w7.setCell ⟨bi, 0, none⟩ (.int .u16 X)) := fun ty => one_over HM8 HN8 ty
   have hl9 : ∀ ty, (Builtin.len_ #[91] ty #[.map (some W0.heap.size)]).run Try.prog (w7.setCell ⟨bi, 0, none⟩ (.int .u16 X)) = .ok (.int .i64 0) (w7.setCell ⟨bi, 0, none⟩ (.int .u16 X)) := fun ty => (one_len hu (by rw [← hbm.out]; exact HM8) ty).trans rfl
   clear HM8 HN8
   rw [hX] at hr9 hl9 hK8
   clear hX
   go_wp2_with fail
   refine wp_loop_rounds 1 ?_
   rw [rounds_succ]
   go_wp2_with fail
   rw [rounds_succ]
   go_wp2_with (first | (at_next; refine wpList_next_run (v := .pointer (some ⟨ri, 0, none⟩)) rfl (.tmp 56) rfl rfl hr9 ?_))
   rw [rounds_succ]
   go_wp2_with fail
   go_ret3
   rw [← HX.out]
   refine ⟨_, _, rfl, ?_, one_own HO8.out (Nat.le_trans hbase hbo) (by intro e; cases e; exact hne rfl), below_then HB.out HB.out.size (below_then HB2.out HB2.out.size (below_then HB3.out HB3.out.size HS8.out))⟩
   rw [← HR1.out, ← HX.out]
   exact one_own HI8.out (Nat.le_trans hbase hbi) (by intro e; cases e; exact hne rfl)

end Go.Proofs.Ytidcijicehgfkaa.PK
