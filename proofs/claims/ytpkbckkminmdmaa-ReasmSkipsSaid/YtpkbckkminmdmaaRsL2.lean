/- Put as a whole; works. -/
import Derived.Test.YtpkbckkminmdmaaRsL1
namespace Go.Proofs.Ytpkbckkminmdmaa
open Go.RowKit Go.Proofs.YtpkbckkminmdmaaW.PrintWords
attribute [local go_sem] alloc_drewN setCell_drewN isMap_alloc isMap_drew isMap_drewN isMap_setCell cell_setMap frozen_setMap setMap_drew setMap_drewN size_setMap field_piece0 field_data1 field_data3 field_data6

theorem Rs.put_refused {s : Rs.St} {d : Rs.Pc} (h : (Rs.put s d).2 ≠ 0) : (Rs.put s d).1 = s := by
  unfold Rs.put at *
  split
  · rfl
  · split
    · rfl
    · split
      · rfl
      · split
        · rfl
        · rename_i h1 h2 h3 h4
          rw [if_neg h1, if_neg h2, if_neg h3, if_neg h4] at h
          simp only at h
          split at h
          · exact absurd rfl h
          · split at h <;> exact absurd rfl h
theorem Rs.put_taken {s : Rs.St} {d : Rs.Pc} (h : (Rs.put s d).2 = 0) : ¬ s.next.length ≤ d.stream.toNat ∧ ¬ d.bytes.length = 0 ∧ (!d.un && Rs.less16 d.ssn (Rs.nextOf s d.stream)) = false ∧ Rs.get s.L d.tsn = none := by
  unfold Rs.put at h
  split at h
  · cases h
  · split at h
    · cases h
    · split at h
      · cases h
      · split at h
        · cases h
        · rename_i h1 h2 h3 h4
          exact ⟨h1, h2, by simpa using h3, by simpa using h4⟩
def PutP (g : Nat) (s : Gs) (d : Rs.Pc) (w : World) (e : Ending) (w' : World) : Prop :=
  e = .returned (.int .i64 (Rs.put s.abs d).2) ∧ ∃ s', Upd g s s' (Rs.held s'.abs) w w' ∧ s'.abs = (Rs.put s.abs d).1 ∧ s'.next.length = s.next.length ∧ s'.turns ≤ s.turns + 1 ∧ (∀ x ∈ s'.L, x.p.bytes.length ≤ 100000)
theorem put_any (g : Nat) (s : Gs) (d : Rs.Pc) (A : Option Addr) (c : Nat) (w : World) (hr : RsAt w g s (Rs.held s.abs)) (hlim : ∀ x ∈ s.L, x.p.bytes.length ≤ 100000) (ht : s.turns < 1000) (h0 : 0 ≤ d.stream) (h1 : d.stream < 65536) (hs0 : 0 ≤ d.ssn) (hs1 : d.ssn < 65536) (ht0 : 0 ≤ d.tsn) (ht1 : d.tsn < 4294967296)
    (hn : d.bytes.length ≤ 100000) (hh : Rs.held s.abs < 1000000000) (hb : BIn w A d.bytes) :
    Calls Try.prog 42 #[.pointer (some ⟨g, 0, none⟩), .agg (dcells d A c)] w (PutP g s d w) := by
  by_cases hc : (Rs.put s.abs d).2 = 0
  · obtain ⟨a1, a2, a3, a4⟩ := Rs.put_taken hc
    have hpos : 0 < d.bytes.length := by omega
    obtain ⟨ad, rfl, hb1, hb2⟩ := hb hpos
    · refine (put_yes g s _ d ad c w hr hlim ht h0 h1 hs0 hs1 ht0 ht1 hn (held_nonneg _) hh (fun j u hu => ?_) hb1 a1 a2 a3 a4).mono ?_
      · have hj : j < d.bytes.length := by
          rcases Nat.lt_or_ge j d.bytes.length with h | h
          · exact h
          · rw [List.getElem?_eq_none (by rw [nums_len]; exact h)] at hu
            cases hu
        rw [hb2 j hj, ← hu]
        unfold nums
        rw [List.getElem?_map, List.getElem?_eq_getElem hj, List.getD_eq_getElem?_getD, List.getElem?_eq_getElem hj]
        rfl
      · rintro e w' ⟨he, s', h', hu, hab, hnl, htu, hh', hl'⟩
        refine ⟨he, s', ?_, hab, hnl, htu, hl'⟩
        have hL : Lim s := ⟨by omega, hlim⟩
        have hf := hr.ok.fine hL
        have hfd : Rs.Fine (s.abs.L ++ [d]) := by
          refine ⟨?_, ?_, ?_⟩
          · rw [List.map_append, List.nodup_append]
            refine ⟨hf.keys, by simp, fun a ha b hb e => ?_⟩
            rw [show List.map (fun x => x.tsn) [d] = [d.tsn] from rfl, List.mem_singleton] at hb
            obtain ⟨x, hx, hxe⟩ := List.mem_map.1 ha
            have := Rs.get_of_mem hf.keys hx
            rw [hxe, e, hb, a4] at this
            cases this
          · intro x hx
            rcases List.mem_append.1 hx with hx | hx
            · exact hf.rng x hx
            · rw [List.mem_singleton.1 hx]
              exact ⟨ht0, ht1⟩
          · have h2 := hL.L hr.ok
            have h3 : s.abs.L.length = s.L.length := by show (s.L.map (·.p)).length = _; rw [List.length_map]
            rw [List.length_append, h3]
            simp
            omega
        have := Rs.put_held hfd
        rw [if_pos hc] at this hh'
        rw [hab, this, ← hh']
        exact hu
  · refine (put_no g s _ d A c w hr hlim h0 h1 hn hc).mono ?_
    rintro e w' ⟨he, s', h', hu, hab, hnl, htu, hh', hl'⟩
    refine ⟨he, s', ?_, hab, hnl, htu, hl'⟩
    rw [if_neg hc] at hh'
    rw [hab, Rs.put_refused hc, ← hh']
    exact hu
example : Rs.put (Rs.new 2) ⟨5, 0, 0, false, false, true, [98]⟩ = (⟨[⟨5, 0, 0, false, false, true, [98]⟩], [0, 0], []⟩, 0) := by kernel_rfl
end Go.Proofs.Ytpkbckkminmdmaa
