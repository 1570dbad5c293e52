/- Contracts of package spans: New, Add, Count, step, Settle, Move. -/
import Derived.Test.YtpkbckkminmdmaaSpW1
import Derived.BigRegion
namespace Go.Proofs.Ytpkbckkminmdmaa
open Go.RowKit
attribute [local go_sem] alloc_drewN setCell_drewN isMap_alloc isMap_drew isMap_drewN isMap_setCell cell_setMap frozen_setMap setMap_drew setMap_drewN size_setMap

/-- A step on a set: what it may write. -/
def FootS (g mb k : Nat) : Prop := k = g ∨ k = mb
def SNewP (base : Int) (w : World) (e : Ending) (w' : World) : Prop := ∃ g mb, e = .returned (.pointer (some ⟨g, 0, none⟩)) ∧ SpAt w' g mb ⟨base, []⟩ ∧ Fr (fun _ => False) w w' ∧ w.heap.size ≤ g ∧ w.heap.size ≤ mb
theorem snew_any (base : Int) (w : World) (hb : 0 ≤ base ∧ base < 4294967296) : Calls Try.prog 66 #[.int .u32 base] w (SNewP base w) := by
  have hmm := @run_makeMap Try.prog
  go_enter Try.func66, Try.ntmps66
  go_wp2_with fail
  go_ret
  have hm : IsMap ((w.alloc (.map #[] 0)).alloc (.cells #[.int .u32 base, .map (some w.heap.size)] 163)) w.heap.size (ents []) 0 := by
    rw [isMap_alloc _ (by simp)]
    exact heap_alloc_new w _
  exact ⟨w.heap.size + 1, w.heap.size, by simp, ⟨[], 0, Blk.newAt _ _ _ _ (by simp), hm, by simp, by simp, by simp, by simp, Sp.ok_new hb⟩, (by repeat (first | (with_reducible exact Fr.refl _ _) | (with_reducible refine Fr.drewN ?_ _) | (with_reducible refine Fr.drew ?_) | (with_reducible refine Fr.alloc ?_ _))), by omega, by omega⟩
def SAddP (g mb : Nat) (r : Sp.St × Bool) (w : World) (e : Ending) (w' : World) : Prop := e = .returned (.bool r.2) ∧ SpAt w' g mb r.1 ∧ Fr (FootS g mb) w w'
theorem add_in {w : World} {g mb clk : Nat} {s : Sp.St} {l : List En} (h : SpIn w g mb s l clk) {x : Int} (hx : 0 ≤ x ∧ x < 4294967296) (hm : Sp.may s.base x = true) (hh : Sp.has s x = false) :
    Sp.add s x = (⟨s.base, Sp.ins (Sp.dist s.base x) s.ds⟩, true) ∧ SpIn (setMap w mb (ents (l ++ [⟨x, .agg #[], clk⟩])) (clk + 1)) g mb ⟨s.base, Sp.ins (Sp.dist s.base x) s.ds⟩ (l ++ [⟨x, .agg #[], clk⟩]) (clk + 1) := by
  have e : Sp.add s x = (⟨s.base, Sp.ins (Sp.dist s.base x) s.ds⟩, true) := by
    unfold Sp.add
    rw [hm, hh]
    rfl
  have ho := h.ok.add x
  rw [e] at ho
  have hn : Sp.dist s.base x ∉ s.ds := by
    unfold Sp.has at hh
    simpa using hh
  refine ⟨e, by rw [blk_setMap]; exact h.blk, h.map.set _ _, ?_, ?_, ?_, ?_, ho⟩
  · rw [List.map_append]
    have h1 := (Sp.ins_perm hn).map (Sp.key s.base)
    rw [List.map_append] at h1
    refine List.Perm.trans (h.keys.append ?_) h1.symm
    show [x].Perm [Sp.key s.base (Sp.dist s.base x)]
    rw [Sp.key_dist hx]
  · rw [List.map_append, List.nodup_append]
    refine ⟨h.born, by simp, fun a ha b hb hab => ?_⟩
    obtain ⟨y, hy, rfl⟩ := List.mem_map.1 ha
    have := h.bornlt y hy
    rw [show List.map (fun x => x.born) [(⟨x, .agg #[], clk⟩ : En)] = [clk] from rfl, List.mem_singleton] at hb
    omega
  · intro y hy
    rcases List.mem_append.1 hy with hy | hy
    · have := h.bornlt y hy
      omega
    · rw [List.mem_singleton.1 hy]
      show clk < clk + 1
      omega
  · intro y hy
    rcases List.mem_append.1 hy with hy | hy
    · exact h.val y hy
    · rw [List.mem_singleton.1 hy]
theorem sadd_any {w : World} {g mb : Nat} {s : Sp.St} (h : SpAt w g mb s) (x : Int) (hx : 0 ≤ x ∧ x < 4294967296) : Calls Try.prog 67 #[.pointer (some ⟨g, 0, none⟩), .int .u32 x] w (SAddP g mb (Sp.add s x) w) := by
  have hmay := smay_any h x
  have hhas := shas_any h x hx
  have HM := Lib.hid hmay
  have HS := Lib.hid hhas
  clear hmay hhas
  cases hm : Sp.may s.base x with
  | false =>
    have e : Sp.add s x = (s, false) := by unfold Sp.add; rw [hm]; rfl
    have HMM := Lib.hid hm
    rw [e]
    clear hm e
    go_enter Try.func67, Try.ntmps67
    go_wp2_with (go_at_call 115; refine HM.out.mono ?_; rintro e w' ⟨rfl, rfl⟩; rw [HMM.out])
    go_ret
    exact ⟨rfl, h, Fr.refl _ _⟩
  | true =>
    have HMM := Lib.hid hm
    cases hh : Sp.has s x with
    | true =>
      have e : Sp.add s x = (s, false) := by unfold Sp.add; rw [hm, hh]; rfl
      have HHH := Lib.hid hh
      rw [e]
      clear hm hh e
      go_enter Try.func67, Try.ntmps67
      go_wp2_with (first | (go_at_call 115; refine HM.out.mono ?_; rintro e w' ⟨rfl, rfl⟩; rw [HMM.out]) | (go_at_call 51; refine HS.out.mono ?_; rintro e w1 ⟨rfl, hf1⟩; rw [HHH.out]))
      go_ret
      exact ⟨rfl, h.fr0 hf1, hf1.mono fun _ _ h => h.elim⟩
    | false =>
      have HHH := Lib.hid hh
      obtain ⟨l, clk, hi⟩ := h
      have e : Sp.add s x = (⟨s.base, Sp.ins (Sp.dist s.base x) s.ds⟩, true) := (add_in hi hx hm hh).1
      have hfn : l.find? (fun e => e.key == x) = none := by
        have := hi.find hx
        rw [hh] at this
        cases hf : l.find? (fun e => e.key == x) with
        | none => rfl
        | some y => rw [hf] at this; cases this
      rw [e]
      have HI := Lib.hid hi
      have HFN := Lib.hid hfn
      clear hm hh e hfn hi
      go_enter Try.func67, Try.ntmps67
      go_wp2_with (first | (go_at_call 115; refine HM.out.mono ?_; rintro e w' ⟨rfl, rfl⟩; rw [HMM.out]) | (go_at_call 51; refine HS.out.mono ?_; rintro e w1 ⟨rfl, hf1⟩; rw [HHH.out]; have hi1 := HI.out.fr hf1 id id; have c := hi1.blk.cell; have lt := hi1.blk.lt; have hrun := run_update_new (P := Try.prog) Try.underlying161 Try.underlying29 l x (.agg #[]) HFN.out w1 hi1.map; have HI1 := Lib.hid hi1; clear hi1))
      go_ret
      exact ⟨rfl, ⟨_, _, (add_in HI1.out hx HMM.out HHH.out).2⟩, (hf1.mono fun _ _ h => h.elim).setMap (.inl (.inr rfl))⟩
theorem scount_any {w : World} {g mb : Nat} {s : Sp.St} (h : SpAt w g mb s) : Calls Try.prog 53 #[.pointer (some ⟨g, 0, none⟩)] w fun e w' => e = .returned (.int .i64 s.ds.length) ∧ w = w' := by
  obtain ⟨l, clk, hi⟩ := h
  have c := hi.blk.cell
  have lt := hi.blk.lt
  have hrun2 : ∀ ty, (Builtin.len_ #[161] ty #[.map (some mb)]).run Try.prog w = .ok (.int .i64 l.length) w := fun ty => run_len_map Try.underlying161 l ty w hi.map
  rw [← hi.len]
  go_enter Try.func53, Try.ntmps53
  go_wp2_with fail
  go_ret
  exact ⟨rfl, rfl⟩
def SStepP (g mb : Nat) (s : Sp.St) (w : World) (e : Ending) (w' : World) : Prop := e = .returned (.tuple #[]) ∧ SpAt w' g mb s ∧ Fr (FootS g mb) w w'
theorem step_in {w : World} {g mb clk : Nat} {s : Sp.St} {l : List En} (h : SpIn w g mb s l clk) :
    SpIn (setMap (w.setCell ⟨g, 0, none⟩ (.int .u32 ((s.base + 1) % 4294967296))) mb (ents (l.filter fun e => e.key != (s.base + 1) % 4294967296)) clk) g mb (Sp.step s) (l.filter fun e => e.key != (s.base + 1) % 4294967296) clk := by
  have hb := (h.blk.set 0 (.int .u32 ((s.base + 1) % 4294967296)))
  refine ⟨by rw [blk_setMap]; exact hb, ?_, ?_, (List.filter_sublist.map _).nodup h.born, fun e he => h.bornlt e (List.mem_filter.1 he).1, fun e he => h.val e (List.mem_filter.1 he).1, h.ok.step⟩
  · exact IsMap.set (by rw [isMap_setCell]; exact h.map) _ _
  · have h1 : (l.filter fun e => e.key != (s.base + 1) % 4294967296).map (·.key) = (l.map (·.key)).filter fun x => x != (s.base + 1) % 4294967296 := by
      rw [List.filter_map]
      rfl
    have h2 : (Sp.step s).ds.map (Sp.key (Sp.step s).base) = (s.ds.map (Sp.key s.base)).filter fun x => x != (s.base + 1) % 4294967296 := by
      unfold Sp.step
      dsimp only
      rw [List.map_map, List.filter_map]
      have h3 : s.ds.filter ((fun x => x != (s.base + 1) % 4294967296) ∘ Sp.key s.base) = s.ds.filter fun d => d != 1 := by
        refine List.filter_congr fun d hd => ?_
        have := h.ok.rng d hd
        rw [Bool.eq_iff_iff]
        simp only [Function.comp, bne_iff_ne, ne_eq]
        unfold Sp.key
        omega
      rw [h3]
      refine List.map_congr_left fun d hd => ?_
      have := h.ok.rng d (List.mem_filter.1 hd).1
      show Sp.key ((s.base + 1) % 4294967296) (d - 1) = Sp.key s.base d
      unfold Sp.key
      omega
    rw [h1, h2]
    exact h.keys.filter _
theorem sstep_any {w : World} {g mb : Nat} {s : Sp.St} (h : SpAt w g mb s) : Calls Try.prog 117 #[.pointer (some ⟨g, 0, none⟩)] w (SStepP g mb (Sp.step s) w) := by
  obtain ⟨l, clk, hi⟩ := h
  have c := hi.blk.cell
  have lt := hi.blk.lt
  have fz := hi.blk.frozen
  have hi2 := step_in hi
  have HI2 := Lib.hid hi2
  have hdel : ∀ (ty : TypeId) (W : World), IsMap W mb (ents l) clk → (Builtin.delete_ #[161, 29] ty #[.map (some mb), .int .u32 ((s.base + 1) % 4294967296)]).run Try.prog W = .ok (.tuple #[]) (setMap W mb (ents (l.filter fun x => x.key != (s.base + 1) % 4294967296)) clk) :=
    fun ty W hW => run_delete Try.underlying161 Try.underlying29 l hi.keysNodup _ ty _ hW
  have hm := hi.map
  clear hi2 hi
  go_enter Try.func117, Try.ntmps117
  go_wp2_with fail
  go_region
  go_wp2_with fail
  go_end0
  exact ⟨rfl, SpAt.fr0 ⟨_, _, HI2.out⟩ (by repeat (first | (with_reducible exact Fr.refl _ _) | (with_reducible refine Fr.drewN ?_ _) | (with_reducible refine Fr.drew ?_) | (with_reducible refine Fr.alloc ?_ _))), (((Fr.refl _ _).setAt (.inl (.inl rfl))).setMap (.inl (.inr rfl))).trans (by repeat (first | (with_reducible exact Fr.refl _ _) | (with_reducible refine Fr.drewN ?_ _) | (with_reducible refine Fr.drew ?_) | (with_reducible refine Fr.alloc ?_ _)))⟩
def SNumP (g mb : Nat) (r : Sp.St × Nat) (w : World) (e : Ending) (w' : World) : Prop := e = .returned (.int .i64 r.2) ∧ SpAt w' g mb r.1 ∧ Fr (FootS g mb) w w'
set_option maxRecDepth 100000 in
theorem ssettle_any {w : World} {g mb : Nat} {s : Sp.St} (h : SpAt w g mb s) : Calls Try.prog 54 #[.pointer (some ⟨g, 0, none⟩)] w (SNumP g mb (Sp.settle s) w) := by
  go_enter Try.func54, Try.ntmps54
  go_wp2_with fail
  have hlen := h.ok.len
  go_loopg [2] (Sp.settle s).2 (fun k v wr => ∃ (n : Nat) (t : Sp.St), v = .int .i64 n ∧ SpAt wr g mb t ∧ Fr (FootS g mb) w wr ∧ (Sp.settle s).1 = (Sp.settle t).1 ∧ (Sp.settle s).2 = n + (Sp.settle t).2 ∧ k = (Sp.settle t).2 ∧ n ≤ 4096)
  case atStart => exact ⟨0, s, rfl, h, Fr.refl _ _, rfl, by omega, rfl, by omega⟩
  case round =>
    obtain ⟨n, t, rfl, ht, hF, e1, e2, hk, hn⟩ := hrel
    have hbase := sbase_any ht
    have hhas := shas_any ht ((t.base + 1) % 4294967296) (by omega)
    rw [Sp.has_next] at hhas
    have HB := Lib.hid hbase
    have HH := Lib.hid hhas
    have HE1 := Lib.hid e1
    have HE2 := Lib.hid e2
    have HK := Lib.hid hk
    clear hbase hhas e1 e2 hk
    have hok := ht.ok
    by_cases h1 : 1 ∈ t.ds
    · have hst := Sp.settle_step hok h1
      have HST := Lib.hid hst
      have hb1 : decide (1 ∈ t.ds) = true := decide_eq_true h1
      have HB1 := Lib.hid hb1
      have hlt : n < 4096 := by
        have a1 := Sp.lead_bound h.ok
        have a2 := HE2.out
        rw [hst, Sp.settle_eq h.ok] at a2
        dsimp only at a2
        omega
      clear hst hb1 h1
      go_wp2_with (first
        | (go_at_call 55; refine HB.out.mono ?_; rintro e w1 ⟨rfl, rfl⟩)
        | (go_at_call 51; refine HH.out.mono ?_; rintro e w1 ⟨rfl, hf1⟩; rw [HB1.out])
        | (go_at_call 117; refine (sstep_any (ht.fr0 hf1)).mono ?_; rintro e w2 ⟨rfl, ht2, hf2⟩))
      go_roundg (Sp.settle (Sp.step t)).2
      case measure => rw [HK.out, HST.out]; omega
      case rel => exact ⟨n + 1, Sp.step t, by go_num, ht2, (hF.trans (hf1.mono fun _ _ h => h.elim)).trans hf2, by rw [HE1.out, HST.out], by rw [HE2.out, HST.out]; omega, rfl, by omega⟩
    · have hst := Sp.settle_stop hok h1
      have HST := Lib.hid hst
      have hb1 : decide (1 ∈ t.ds) = false := decide_eq_false h1
      have HB1 := Lib.hid hb1
      clear hst hb1 h1
      go_wp2_with (first
        | (go_at_call 55; refine HB.out.mono ?_; rintro e w1 ⟨rfl, rfl⟩)
        | (go_at_call 51; refine HH.out.mono ?_; rintro e w1 ⟨rfl, hf1⟩; rw [HB1.out]))
      go_ret
      refine ⟨?_, ?_, hF.trans (hf1.mono fun _ _ h => h.elim)⟩
      · rw [HE2.out, HST.out]
        rfl
      · rw [HE1.out, HST.out]
        exact ht.fr0 hf1
set_option maxRecDepth 100000 in
theorem smove_any {w : World} {g mb : Nat} {s : Sp.St} (h : SpAt w g mb s) (x : Int) (hx : 0 ≤ x ∧ x < 4294967296) : Calls Try.prog 71 #[.pointer (some ⟨g, 0, none⟩), .int .u32 x] w (SNumP g mb (Sp.move s x) w) := by
  have hmay := smay_any h x
  have HM := Lib.hid hmay
  clear hmay
  cases hm : Sp.may s.base x with
  | false =>
    rw [Sp.move_no hm]
    have HMM := Lib.hid hm
    clear hm
    go_enter Try.func71, Try.ntmps71
    go_wp2_with (go_at_call 115; refine HM.out.mono ?_; rintro e w1 ⟨rfl, rfl⟩; rw [HMM.out])
    go_ret
    exact ⟨rfl, h, Fr.refl _ _⟩
  | true =>
    have hmv : Sp.move s x = ((Sp.settle (Sp.movedTo s (Sp.dist s.base x))).1, Sp.dist s.base x + (Sp.settle (Sp.movedTo s (Sp.dist s.base x))).2) := by unfold Sp.move; rw [hm]; rfl
    have hd : 1 ≤ Sp.dist s.base x ∧ Sp.dist s.base x ≤ 4096 := by
      unfold Sp.may at hm
      rw [Bool.and_eq_true, decide_eq_true_iff, decide_eq_true_iff] at hm
      exact hm
    rw [hmv]
    have HMM := Lib.hid hm
    have hkd := Sp.key_dist (b := s.base) hx
    clear hm hmv
    generalize Sp.dist s.base x = d at *
    subst hkd
    go_enter Try.func71, Try.ntmps71
    go_wp2_with (go_at_call 115; refine HM.out.mono ?_; rintro e w1 ⟨rfl, rfl⟩; rw [HMM.out])
    go_loopg [4] d (fun k v wr => ∃ (n : Nat) (t : Sp.St), v = .int .i64 n ∧ SpAt wr g mb t ∧ Fr (FootS g mb) w wr ∧ Sp.movedTo s d = Sp.movedTo t (d - n) ∧ t.base = Sp.key s.base n ∧ n ≤ d ∧ k = d - n)
    case atStart => exact ⟨0, s, rfl, h, Fr.refl _ _, by rw [Nat.sub_zero], by rw [Sp.key_zero h.ok.base], by omega, by omega⟩
    case round =>
      obtain ⟨n, t, rfl, ht, hF, e1, e2, hn, hk⟩ := hrel
      have c := ht.blk.cell
      have lt := ht.blk.lt
      have hok := ht.ok
      have HE1 := Lib.hid e1
      have HE2 := Lib.hid e2
      have HK := Lib.hid hk
      clear e1 e2 hk
      by_cases hnd : n = d
      · subst hnd
        have hb : (t.base != Sp.key s.base n) = false := by rw [HE2.out]; simp
        have ho1 : t = Sp.movedTo s n := by rw [HE1.out, Nat.sub_self, Sp.moved_zero hok]
        have HO1 := Lib.hid ho1
        have hsl := Sp.lead_bound (ho1 ▸ hok : (Sp.movedTo s n).Ok)
        have hs2 : (Sp.settle t).2 ≤ 4096 := by rw [Sp.settle_eq hok]; exact Sp.lead_bound hok
        clear ho1 hsl
        go_wp2_with (go_at_call 54; refine (ssettle_any ht).mono ?_; rintro e w2 ⟨rfl, ht2, hf2⟩)
        go_ret
        refine ⟨?_, ?_, hF.trans hf2⟩
        · rw [← HO1.out]
          go_num
        · rw [← HO1.out]
          exact ht2
      · have hb : (t.base != Sp.key s.base d) = true := by
          rw [HE2.out]
          simp only [bne_iff_ne, ne_eq]
          intro hc
          exact hnd (Sp.key_inj (by omega) (by omega) hc)
        go_wp2_with (go_at_call 117; refine (sstep_any ht).mono ?_; rintro e w2 ⟨rfl, ht2, hf2⟩)
        go_roundg (d - (n + 1))
        case measure => rw [HK.out]; omega
        case rel =>
          refine ⟨n + 1, Sp.step t, by go_num, ht2, hF.trans hf2, ?_, ?_, by omega, rfl⟩
          · rw [HE1.out, show d - n = (d - (n + 1)) + 1 by omega, Sp.moved_step hok]
          · show (t.base + 1) % 4294967296 = _
            rw [HE2.out]
            unfold Sp.key
            omega
end Go.Proofs.Ytpkbckkminmdmaa
