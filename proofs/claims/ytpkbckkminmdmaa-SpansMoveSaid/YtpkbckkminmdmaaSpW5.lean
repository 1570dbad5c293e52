/- Contracts: slices.AppendSeq and slices.Collect of a map's keys. -/
import Derived.RangeFuncBound
import Derived.Test.YtpkbckkminmdmaaSpW4
namespace Go.Proofs.Ytpkbckkminmdmaa
open Go.RowKit Go.Shelf
attribute [local go_sem] Oper.semAt_some

theorem info_u32 : (Try.prog.info? 29).map (fun i => (i.zero, i.size, i.bytes)) = some (some (.int .u32 0), 1, 4) := by kernel_rfl
theorem walks_of_others {W W' : World} (h : KeepsOthers W W') : KeepsWalks W W' := ⟨h.size, fun k o hk ho => h.same k o hk (by cases o <;> simp_all [Obj.isWalk, Obj.isCells])⟩
theorem keys_stops (F : Fence) (n : Nat) (hf : F.fn 145) (hro : F.round = none) (hn : 1 ≤ n) (Bm mb clk : Nat) (l : List En) (w : World) (hBm : Bm < w.heap.size) (hm : w.cell? ⟨Bm, 0, none⟩ = some (.map (some mb)))
    (hmap : IsMap w mb (ents l) clk) (hlt : ∀ e ∈ l, e.born < clk) (hnd : (l.map (·.born)).Nodup) :
    SeqStopsK F n Try.prog 145 #[.pointer (some ⟨Bm, 0, none⟩)] (fun x : Int => #[Value.int .u32 x]) KeepsWalks (fun xs => xs.Perm (l.map (·.key))) (fun _ => True) l.length w := fun l0 J Jx W hW hJ _ hY h0 =>
  keys1_in F n hf hro hn l0 Bm mb clk l J Jx hY W hJ ((hW.cell (p := ⟨Bm, 0, none⟩) hBm).trans hm) (hmap.below hW hmap.lt) hlt hnd h0
set_option maxRecDepth 100000 in
set_option maxHeartbeats 2000000 in
theorem appendSeq_in (F : Fence) (n : Nat) (hfa : F.fn 150) (hf : F.fn 145) (hro : F.round = none) (hn : 3 ≤ n) (Bm mb clk : Nat) (l : List En) (w : World) (hBm : Bm < w.heap.size) (hm : w.cell? ⟨Bm, 0, none⟩ = some (.map (some mb)))
    (hmap : IsMap w mb (ents l) clk) (hlt : ∀ e ∈ l, e.born < clk) (hnd : (l.map (·.born)).Nodup) (hlen : l.length ≤ 100000) :
    CallsIn F n Try.prog 150 #[.slice none 0 0, .func (.func 145) #[] #[.pointer (some ⟨Bm, 0, none⟩)]] w fun e W' => ∃ (v : Value) (xs : List Int), e = .returned v ∧ xs.Perm (l.map (·.key)) ∧
      W'.ownsRow w.heap.size 29 1 v xs.length (xs.map (Value.int .u32)) ∧ (v = .slice none 0 0 ↔ xs = []) ∧ Below w.heap.size w W' := by
  have h1 : 1 ≤ n := by omega
  obtain ⟨i0, hi, hz0, hz1, hz2⟩ := info_parts info_u32
  have hst := keys_stops F (n - 1) hf hro (by omega) Bm mb clk l (w.alloc (.cells #[.slice none 0 0] 70)) (by simp; omega) ((Below.refl _ w).alloc (Nat.le_refl _) _ |>.cell (p := ⟨Bm, 0, none⟩) hBm |>.trans hm)
    ((Below.heap_alloc w _ mb hmap.lt).trans hmap) hlt hnd
  have HST := Lib.hid hst
  clear hst hm hmap hlt hnd
  refine callsIn_of_wp_marks Try.func150 rfl hfa ?_ hro
  simp only [Try.ntmps150, List.size_toArray, List.length_cons, List.length_nil, Nat.reduceAdd, Nat.reduceSub, Array.replicate_succ, Array.replicate_zero, List.push_toArray, List.append_toArray, List.nil_append, List.cons_append]
  gi_wp2
  have bO := Boxed.new w 70 (.slice none 0 0)
  have hB0 : Below w.heap.size w (w.alloc (.cells #[.slice none 0 0] 70)) := (Below.refl _ w).alloc (Nat.le_refl _) _
  refine wpIn_rangeFunc_ownG hro h1 (gf := 145) (lb := #[.pointer (some ⟨Bm, 0, none⟩)]) rfl hf (enters_of Try.func145 (by kernel_rfl) rfl)
    HST.out walksK_t walksK_b (Below.refl _ _) (fun _ => rfl)
    (fun (pre : List Int) W => (∃ v, Boxed W w.heap.size 70 v ∧ W.ownsRow w.heap.size 29 1 v pre.length (pre.map (Value.int .u32)) ∧ (v = .slice none 0 0 ↔ pre = [])) ∧ Below w.heap.size w W)
    (fun _ _ _ => False)
    (OwnFrom.and (Own.from (holdsRow_own w.heap.size w.heap.size 70 29 1 (fun (pre : List Int) => pre.length) (fun pre => pre.map (Value.int .u32)) (fun pre v => v = .slice none 0 0 ↔ pre = [])) _) (ownFrom_below (Nat.le_refl _) (by simp)))
    (fun _ _ _ _ _ hs _ _ => hs)
    ⟨⟨_, bO, World.ownsRow_nil _ _ _ _, by simp⟩, hB0⟩
    (fun x => { tmps := #[.slice none 0 0, .func (.func 145) #[] #[.pointer (some ⟨Bm, 0, none⟩)], .pointer (some ⟨w.heap.size, 0, none⟩), undef, .slice none 0 0, .int .u32 x, .func (.func 145) #[] #[.pointer (some ⟨Bm, 0, none⟩)], .int .u32 x, undef, undef, undef, undef, undef], defers := [] }) ?assign ?body ?done ?stop
  case assign =>
    intro l x W K hK
    gi_wp2
    exact hK
  case body =>
    rintro l0 pre x W ⟨⟨v, hv, hrow, hnil⟩, hB⟩ hlt
    have hc := hv.cell
    gi_wp2_with (gi_at_builtin; refine wpListIn_append_own _ rfl _ _ 70 rfl w.heap.size 29 i0 (.int .u32 0) 1 4 Try.underlying70 hi hz0 hz1 hz2 rfl (by decide) _ _ _ rfl (hrow.alloc _) ⟨W.heap.size, 0, none⟩ 1 1 [.int .u32 x] rfl rfl (cell_one_new _ _ _) (by simp [Value.oneCell']) (by unfold maxLen; omega) (by omega) (by have := hB.size; simp; omega) ?_; intro v' w1 hown' hgrow _; obtain ⟨g', cap', rfl⟩ := ownsRow_succ hown'; obtain ⟨hv1, hv2, hr2, hk2, hb2⟩ := hv.appended (by decide) hrow hB.size (Nat.le_refl _) hown' hgrow; have hc1 := hv1.cell; have hf1 := hv1.frozen)
    exact ⟨hk2.from _, walks_of_others hk2, ⟨_, hv2, by simpa using hr2, by simp⟩, hB.trans hb2⟩
  case done =>
    rintro D ys W hD hp ⟨⟨v, hv, hrow, hnil⟩, hB⟩ hK
    have hc := hv.cell
    gi_wp2
    refine ⟨by simp, .inl ⟨_, _, rfl, run_takeDeferred hK, ?_⟩⟩
    exact ⟨_, results_tmp rfl _ _ _, v, ys, rfl, hp, ownsRow_putObj hrow _ hK rfl, hnil, hB.trans (belowK_b (w := w) (Nat.le_refl _) W D _ _ (by simp at hD; omega) hK rfl rfl)⟩
  case stop =>
    rintro D c pre W _ _ h _
    exact h.elim
set_option maxHeartbeats 1000000 in
theorem keys_any (m : Option Nat) (w : World) : Calls Try.prog 114 #[.map m] w fun e w' => e = .returned (.func (.func 145) #[] #[.pointer (some ⟨w.heap.size, 0, none⟩)]) ∧ w' = w.alloc (.cells #[.map m] 161) := by
  go_enter Try.func114, Try.ntmps114
  go_wp2
  go_ret
  exact ⟨rfl, rfl⟩
/-- What was collected: the keys, each once, in some order. -/
def CollP (l : List En) (w : World) (e : Ending) (W' : World) : Prop := ∃ (v : Value) (xs : List Int), e = .returned v ∧ xs.Perm (l.map (·.key)) ∧
      W'.ownsRow w.heap.size 29 1 v xs.length (xs.map (Value.int .u32)) ∧ (v = .slice none 0 0 ↔ xs = []) ∧ Below w.heap.size w W'
theorem collect_any (Bm mb clk : Nat) (l : List En) (w : World) (hBm : Bm < w.heap.size) (hm : w.cell? ⟨Bm, 0, none⟩ = some (.map (some mb)))
    (hmap : IsMap w mb (ents l) clk) (hlt : ∀ e ∈ l, e.born < clk) (hnd : (l.map (·.born)).Nodup) (hlen : l.length ≤ 100000) :
    Calls Try.prog 143 #[.func (.func 145) #[] #[.pointer (some ⟨Bm, 0, none⟩)]] w (CollP l w) := by
  have hA : Calls Try.prog 150 #[.slice none 0 0, .func (.func 145) #[] #[.pointer (some ⟨Bm, 0, none⟩)]] w (CollP l w) := callsIn_wide.1 (appendSeq_in Fence.wide 5 trivial trivial rfl (by decide) Bm mb clk l w hBm hm hmap hlt hnd hlen)
  have HA := Lib.hid hA
  clear hA hm hmap hlt hnd
  go_enter Try.func143, Try.ntmps143
  go_wp2_with (go_at_call 150; refine HA.out.mono ?_; rintro e w1 ⟨v, xs, rfl, h1, h2, h3, h4⟩)
  go_ret
  exact ⟨v, xs, rfl, h1, h2, h3, h4⟩
end Go.Proofs.Ytpkbckkminmdmaa
