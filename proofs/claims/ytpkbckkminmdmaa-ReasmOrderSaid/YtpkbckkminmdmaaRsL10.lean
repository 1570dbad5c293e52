/- turned: the places of so many, in another order. -/
import Derived.Test.YtpkbckkminmdmaaRsL9
import Derived.Test.YtpkbckkminmdmaaRsPure8
import Derived.Test.YtpkbckkminmdmaaPReasmOrderx1
namespace Go.Proofs.Ytpkbckkminmdmaa
open Go.RowKit Go.Proofs.YtpkbckkminmdmaaW.PrintWords Go.Proofs.YtpkbckkminmdmaaW.PrintMore Go.Proofs.Ytpkbckkminmdmaa.PReasmOrder

def ints (l : List Nat) : List Int := l.map fun (i : Nat) => (i : Int)
theorem ints_len (l : List Nat) : (ints l).length = l.length := List.length_map _
theorem rd_byte {o : List Int} (ho : ∀ x ∈ o, 0 ≤ x ∧ x < 256) (i : Int) : 0 ≤ rd o i ∧ rd o i < 256 := by
  unfold rd
  rw [List.getD_eq_getElem?_getD]
  cases h : o[i.toNat]? with
  | none => exact ⟨Int.le_refl 0, by decide⟩
  | some x => exact ho x (List.mem_of_getElem? h)
theorem ins_perm (l : List Nat) (k x : Nat) : (l.take k ++ [x] ++ l.drop k).Perm (l ++ [x]) := by
  have h1 : (l.take k ++ [x] ++ l.drop k).Perm (l.take k ++ (l.drop k ++ [x])) := by
    rw [List.append_assoc]
    exact List.Perm.append_left _ List.perm_append_comm
  rw [← List.append_assoc, List.take_append_drop] at h1
  exact h1
theorem ints_app (a b : List Nat) : ints (a ++ b) = ints a ++ ints b := List.map_append
theorem ints_take (a : List Nat) (k : Nat) : (ints a).take k = ints (a.take k) := List.map_take.symm
theorem ints_drop (a : List Nat) (k : Nat) : (ints a).drop k = ints (a.drop k) := List.map_drop.symm
theorem turned_loop (n : Nat) (hn : n ≤ 100) (o : List Int) (ho : ∀ x ∈ o, 0 ≤ x ∧ x < 256) : ∀ (m i : Nat) (out : List Nat), i + m = n → out.Perm (List.range i) → ∃ r : List Nat, fairleadlaw18_turned.l0 (m + 1) n o (ints out) i = some (ints r) ∧ r.Perm (List.range n)
  | 0, i, out, hi, hp => by
    refine ⟨out, ?_, by rw [← show i = n by omega]; exact hp⟩
    unfold fairleadlaw18_turned.l0
    rw [if_neg (by omega)]
  | m + 1, i, out, hi, hp => by
    have hlen : out.length = i := by rw [hp.length_eq, List.length_range]
    have hil : ((ints out).length : Int) = i := by rw [ints_len, hlen]
    have e1 : wrap64 ((i : Int) + 1) = (i : Int) + 1 := wrap64_small (by omega) (by omega)
    have hr := rd_byte ho (i : Int)
    have e2 : wrap64 (rd o (i : Int)) = rd o (i : Int) := wrap64_small (by omega) (by omega)
    have hmod : Int.tmod (rd o (i : Int)) ((i : Int) + 1) = rd o (i : Int) % ((i : Int) + 1) := Int.tmod_eq_emod_of_nonneg hr.1
    obtain ⟨k, hk, hk2⟩ : ∃ k : Nat, rd o (i : Int) % ((i : Int) + 1) = k ∧ k ≤ i := by
      have h1 := Int.emod_nonneg (rd o (i : Int)) (show (i : Int) + 1 ≠ 0 by omega)
      have h2 := Int.emod_lt_of_pos (rd o (i : Int)) (show 0 < (i : Int) + 1 by omega)
      exact ⟨(rd o (i : Int) % ((i : Int) + 1)).toNat, by omega, by omega⟩
    have go : ∀ k : Nat, k ≤ i → ∃ r : List Nat, fairleadlaw18_turned.l0 (m + 1) n o (((([] : List Int) ++ (ints out).take k) ++ [(i : Int)]) ++ (ints out).drop k) (wrap64 ((i : Int) + 1)) = some (ints r) ∧ r.Perm (List.range n) := fun k hk => by
      have h1 : ((out.take k ++ [i] ++ out.drop k)).Perm (List.range (i + 1)) := by
        rw [List.range_succ]
        exact (ins_perm out k i).trans (hp.append_right _)
      obtain ⟨r, a, b⟩ := turned_loop n hn o ho m (i + 1) _ (by omega) h1
      refine ⟨r, ?_, b⟩
      rw [e1, ← a]
      rw [ints_app, ints_app, ints_take, ints_drop, List.nil_append]
      rfl
    have t1 : ∀ k : Nat, k ≤ i → (([] : List Int).length + ((ints out).take k).length < 17592186044416) := fun k hk => by simp [ints_len]; omega
    have t2 : ∀ k : Nat, k ≤ i → (([] : List Int) ++ (ints out).take k).length < 17592186044416 := fun k hk => by simp [ints_len]; omega
    have t3 : ∀ k : Nat, k ≤ i → ((([] : List Int) ++ (ints out).take k) ++ [(i : Int)]).length + ((ints out).drop k).length < 17592186044416 := fun k hk => by simp [ints_len]; omega
    unfold fairleadlaw18_turned.l0
    rw [if_pos (by omega)]
    by_cases hio : (i : Int) < o.length
    · rw [if_pos hio, if_pos (by omega), hil, e1, if_neg (by omega), e2, hmod, hk]
      simp only [Option.bind_some, Int.toNat_natCast]
      rw [if_pos (by omega), if_pos (by omega), if_pos (t1 k hk2), if_pos (t2 k hk2), if_pos (t3 k hk2)]
      have := go k hk2
      rwa [e1] at this
    · rw [if_neg hio]
      simp only [Option.bind_some]
      rw [if_pos (by omega), if_pos (t1 0 (by omega)), if_pos (t2 0 (by omega)), if_pos (t3 0 (by omega))]
      exact go 0 (by omega)
def TurnedP (n : Nat) (w : World) (e : Ending) (w' : World) : Prop := ∃ (A : Option Addr) (c : Nat) (at_ : List Nat), e = .returned (.slice A at_.length c) ∧ at_.Perm (List.range n) ∧ (Kd.int .i64).C w' A at_.length (ints at_) ∧ Fr (fun _ => False) w w' ∧ ∀ ad, A = some ad → w.heap.size ≤ ad.block
theorem turned_any (n : Nat) (hn : n ≤ 100) (A : Option Addr) (c : Nat) (o : List Int) (w : World) (hC : (Kd.int .u8).C w A o.length o) (hc : o.length ≤ c) (ho : ∀ x ∈ o, 0 ≤ x ∧ x < 256) : Calls Try.prog 40 #[.int .i64 n, .slice A o.length c] w (TurnedP n w) := by
  obtain ⟨r, h1, h2⟩ := turned_loop n hn o ho n 0 [] (by omega) (List.Perm.refl _)
  refine (fairleadlaw18_turned.calls (n + 1) n A c o (ints r) w hC hc h1).mono ?_
  rintro e w' ⟨v, rfl, hR, hB⟩
  obtain ⟨A', c', rfl, _, hC'⟩ := Kd.R_reads hR
  refine ⟨A', c', r, by rw [ints_len], h2, by rwa [ints_len] at hC', Fr.of_below hB, fun ad e => ?_⟩
  obtain ⟨_, inner, ho, _⟩ := hR
  exact own_base ho ad.block (by rw [e]; rfl)
theorem int_at {w : World} {A : Option Addr} {l : List Nat} (h : (Kd.int .i64).C w A l.length (ints l)) (i : Nat) (hi : i < l.length) : ∃ ad, A = some ad ∧ w.cell? (ad.add i) = some (.int .i64 (l[i] : Int)) := by
  obtain ⟨ad, c, e, _, hK, hc⟩ := Kd.C_get h (0 : Int) (i : Int) (by omega) (by omega)
  rw [Int.toNat_natCast] at hK hc
  obtain rfl : c = [Value.int .i64 ((ints l).getD i 0)] := hK
  have h0 := hc 0 _ rfl
  refine ⟨ad, e, ?_⟩
  have e1 : (ints l).getD i 0 = (l[i] : Int) := by
    unfold ints
    rw [List.getD_eq_getElem?_getD, List.getElem?_map, List.getElem?_eq_getElem hi]
    rfl
  rw [e1] at h0
  have e2 : i * (Kd.int .i64).sz + 0 = i := Nat.mul_one i
  rwa [e2] at h0
end Go.Proofs.Ytpkbckkminmdmaa
