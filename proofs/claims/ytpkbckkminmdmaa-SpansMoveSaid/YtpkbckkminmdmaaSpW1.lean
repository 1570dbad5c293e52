/- Contracts of package spans: New, Base, may, Has, Add, Count, step, Settle, Move. -/
import Derived.Test.YtpkbckkminmdmaaRsW1
import Derived.Test.YtpkbckkminmdmaaSpPure2
namespace Go.Proofs.Ytpkbckkminmdmaa
open Go.RowKit
attribute [local go_sem] alloc_drewN setCell_drewN isMap_alloc isMap_drew isMap_drewN isMap_setCell cell_setMap frozen_setMap setMap_drew setMap_drewN size_setMap

theorem in32_any (x base : Int) (w : World) : Calls Try.prog 124 #[.int .u32 x, .int .u32 base, .int .i64 4096] w fun e w' => e = .returned (.bool (Sp.may base x)) ∧ w = w' := by
  obtain ⟨k, hk⟩ : ∃ k, k = (x - base) % 4294967296 := ⟨_, rfl⟩
  have hR : Sp.may base x = (decide (1 ≤ k) && decide (k ≤ 4096)) := by
    unfold Sp.may Sp.dist
    rw [← hk, Bool.eq_iff_iff]
    simp only [Bool.and_eq_true, decide_eq_true_iff]
    omega
  have h0 : 0 ≤ k := by omega
  have h1 : k < 4294967296 := by omega
  have H := Lib.hid hR
  have HX := Lib.hid hk
  clear hR hk
  by_cases hp : 0 < k
  · go_enter Try.func124, Try.ntmps124
    go_wp2_with (go_at_call 111; refine (ahead32_any _ _ _).mono ?_; rintro e w' ⟨rfl, rfl⟩; rw [← HX.out])
    go_ret
    refine ⟨ret_bool ?_, rfl⟩
    rw [H.out, decide_eq_true (show 1 ≤ k by omega), Bool.true_and]
  · go_enter Try.func124, Try.ntmps124
    go_wp2_with (go_at_call 111; refine (ahead32_any _ _ _).mono ?_; rintro e w' ⟨rfl, rfl⟩; rw [← HX.out])
    go_ret
    refine ⟨ret_bool ?_, rfl⟩
    rw [H.out, decide_eq_false (show ¬ 1 ≤ k by omega), Bool.false_and]
theorem max32_any (a b : Int) (w : World) : Calls Try.prog 116 #[.int .u32 a, .int .u32 b] w fun e w' => e = .returned (.int .u32 (if Rs.less32 a b then b else a)) ∧ w = w' := by
  cases h : Rs.less32 a b
  · go_enter Try.func116, Try.ntmps116
    go_wp2_with (go_at_call 125; refine (less32_any _ _ _).mono ?_; rintro e w' ⟨rfl, rfl⟩; rw [h])
    go_ret
    exact ⟨rfl, rfl⟩
  · go_enter Try.func116, Try.ntmps116
    go_wp2_with (go_at_call 125; refine (less32_any _ _ _).mono ?_; rintro e w' ⟨rfl, rfl⟩; rw [h])
    go_ret
    exact ⟨rfl, rfl⟩

/-- A set in memory. -/
structure SpIn (w : World) (g mb : Nat) (s : Sp.St) (l : List En) (clk : Nat) : Prop where
  blk : Blk w g 163 #[.int .u32 s.base, .map (some mb)]
  map : IsMap w mb (ents l) clk
  keys : (l.map (·.key)).Perm (s.ds.map (Sp.key s.base))
  born : (l.map (·.born)).Nodup
  bornlt : ∀ e ∈ l, e.born < clk
  val : ∀ e ∈ l, e.val = .agg #[]
  ok : s.Ok
def SpAt (w : World) (g mb : Nat) (s : Sp.St) : Prop := ∃ l clk, SpIn w g mb s l clk
section
variable {w w' : World} {g mb clk : Nat} {s : Sp.St} {l : List En}
theorem SpIn.fr {S : Nat → Prop} (h : SpIn w g mb s l clk) (hf : Fr S w w') (h1 : ¬ S g) (h2 : ¬ S mb) : SpIn w' g mb s l clk :=
  ⟨h.blk.fr hf h1, h.map.fr hf h2, h.keys, h.born, h.bornlt, h.val, h.ok⟩
theorem SpAt.fr {S : Nat → Prop} (h : SpAt w g mb s) (hf : Fr S w w') (h1 : ¬ S g) (h2 : ¬ S mb) : SpAt w' g mb s := by
  obtain ⟨l, clk, h⟩ := h
  exact ⟨l, clk, h.fr hf h1 h2⟩
theorem SpAt.fr0 (h : SpAt w g mb s) (hf : Fr (fun _ => False) w w') : SpAt w' g mb s := h.fr hf id id
theorem SpAt.ok (h : SpAt w g mb s) : s.Ok := by obtain ⟨l, clk, h⟩ := h; exact h.ok
theorem SpAt.blk (h : SpAt w g mb s) : Blk w g 163 #[.int .u32 s.base, .map (some mb)] := by obtain ⟨l, clk, h⟩ := h; exact h.blk
theorem SpAt.lts (h : SpAt w g mb s) : g < w.heap.size ∧ mb < w.heap.size ∧ g ≠ mb := by
  obtain ⟨l, clk, h⟩ := h
  exact ⟨h.blk.lt, h.map.lt, fun e => h.map.ne_blk h.blk e.symm⟩
theorem key_nodup {b : Int} : ∀ {l : List Nat}, (∀ d ∈ l, 1 ≤ d ∧ d ≤ 4096) → l.Nodup → (l.map (Sp.key b)).Nodup
  | [], _, _ => by simp
  | d :: r, h, hn => by
    have hn' := List.nodup_cons.1 hn
    rw [List.map_cons, List.nodup_cons]
    refine ⟨fun hx => ?_, key_nodup (fun x hx => h x (by simp [hx])) hn'.2⟩
    obtain ⟨e, he, hk⟩ := List.mem_map.1 hx
    have h1 := h e (by simp [he])
    have h2 := h d (by simp)
    have := Sp.key_inj (b := b) (by omega) (by omega) hk
    subst this
    exact hn'.1 he
theorem SpIn.keysNodup (h : SpIn w g mb s l clk) : (l.map (·.key)).Nodup := h.keys.nodup_iff.2 (key_nodup h.ok.rng (Sp.asc_nodup h.ok.asc))
theorem SpIn.mem (h : SpIn w g mb s l clk) {x : Int} (hx : 0 ≤ x ∧ x < 4294967296) : x ∈ l.map (·.key) ↔ Sp.has s x = true := by
  rw [h.keys.mem_iff, List.mem_map]
  unfold Sp.has
  rw [decide_eq_true_iff]
  constructor
  · rintro ⟨d, hd, rfl⟩
    have := h.ok.rng d hd
    rw [Sp.dist_key (by omega)]
    exact hd
  · intro hd
    exact ⟨_, hd, Sp.key_dist hx⟩
theorem SpIn.find (h : SpIn w g mb s l clk) {x : Int} (hx : 0 ≤ x ∧ x < 4294967296) : (l.find? (fun e => e.key == x)).isSome = Sp.has s x := by
  rw [Bool.eq_iff_iff, ← h.mem hx, List.find?_isSome, List.mem_map]
  simp
theorem SpIn.len (h : SpIn w g mb s l clk) : l.length = s.ds.length := by
  have := h.keys.length_eq
  simpa using this
end
theorem zero_unit (W : World) : (zeroValue 170).run Try.prog W = .ok (.agg #[]) W := by kernel_rfl

theorem sbase_any {w : World} {g mb : Nat} {s : Sp.St} (h : SpAt w g mb s) : Calls Try.prog 55 #[.pointer (some ⟨g, 0, none⟩)] w fun e w' => e = .returned (.int .u32 s.base) ∧ w = w' := by
  have c := h.blk.cell
  have l := h.blk.lt
  go_enter Try.func55, Try.ntmps55
  go_wp2_with fail
  go_ret
  exact ⟨rfl, rfl⟩
theorem smay_any {w : World} {g mb : Nat} {s : Sp.St} (h : SpAt w g mb s) (x : Int) : Calls Try.prog 115 #[.pointer (some ⟨g, 0, none⟩), .int .u32 x] w fun e w' => e = .returned (.bool (Sp.may s.base x)) ∧ w = w' := by
  have c := h.blk.cell
  have l := h.blk.lt
  go_enter Try.func115, Try.ntmps115
  go_wp2_with (go_at_call 124; refine (in32_any _ _ _).mono ?_; rintro e w' ⟨rfl, rfl⟩)
  go_ret
  exact ⟨rfl, rfl⟩
theorem smay_nil (x : Int) (w : World) : Calls Try.prog 115 #[.pointer none, .int .u32 x] w fun e w' => e = .returned (.bool false) ∧ w = w' := by
  go_enter Try.func115, Try.ntmps115
  go_wp2_with fail
  go_ret
  exact ⟨rfl, rfl⟩
theorem shas_any {w : World} {g mb : Nat} {s : Sp.St} (h : SpAt w g mb s) (x : Int) (hx : 0 ≤ x ∧ x < 4294967296) : Calls Try.prog 51 #[.pointer (some ⟨g, 0, none⟩), .int .u32 x] w fun e w' => e = .returned (.bool (Sp.has s x)) ∧ Fr (fun _ => False) w w' := by
  have hmay := smay_any h x
  have HM := Lib.hid hmay
  clear hmay
  cases hm : Sp.may s.base x with
  | false =>
    have hh : Sp.has s x = false := by
      cases hc : Sp.has s x with
      | false => rfl
      | true => rw [Sp.has_may h.ok hc] at hm; cases hm
    rw [hh]
    have HMM := Lib.hid hm
    clear hm hh
    go_enter Try.func51, Try.ntmps51
    go_wp2_with (go_at_call 115; refine HM.out.mono ?_; rintro e w' ⟨rfl, rfl⟩; rw [HMM.out])
    go_ret
    exact ⟨rfl, (by repeat (first | (with_reducible exact Fr.refl _ _) | (with_reducible refine Fr.drewN ?_ _) | (with_reducible refine Fr.drew ?_) | (with_reducible refine Fr.alloc ?_ _)))⟩
  | true =>
    have HMM := Lib.hid hm
    clear hm
    obtain ⟨l, clk, hi⟩ := h
    have c := hi.blk.cell
    have lt := hi.blk.lt
    have hf := hi.find hx
    have HF := Lib.hid hf
    have HMAP := Lib.hid hi.map
    cases hfd : l.find? (fun e => e.key == x) with
    | none =>
      rw [hfd] at hf
      have hrun := run_lookup_out Try.underlying161 Try.underlying29 zero_unit l x hfd true w hi.map
      rw [← hf]
      clear hf hfd
      go_enter Try.func51, Try.ntmps51
      go_wp2_with (go_at_call 115; refine HM.out.mono ?_; rintro e w' ⟨rfl, rfl⟩; rw [HMM.out])
      go_ret
      exact ⟨rfl, (by repeat (first | (with_reducible exact Fr.refl _ _) | (with_reducible refine Fr.drewN ?_ _) | (with_reducible refine Fr.drew ?_) | (with_reducible refine Fr.alloc ?_ _)))⟩
    | some e =>
      rw [hfd] at hf
      have hrun := run_lookup_in Try.underlying161 Try.underlying29 l x e hfd true w hi.map
      rw [hi.val e (List.mem_of_find?_eq_some hfd)] at hrun
      rw [← hf]
      clear hf hfd
      go_enter Try.func51, Try.ntmps51
      go_wp2_with (go_at_call 115; refine HM.out.mono ?_; rintro e w' ⟨rfl, rfl⟩; rw [HMM.out])
      go_ret
      exact ⟨rfl, (by repeat (first | (with_reducible exact Fr.refl _ _) | (with_reducible refine Fr.drewN ?_ _) | (with_reducible refine Fr.drew ?_) | (with_reducible refine Fr.alloc ?_ _)))⟩
end Go.Proofs.Ytpkbckkminmdmaa
