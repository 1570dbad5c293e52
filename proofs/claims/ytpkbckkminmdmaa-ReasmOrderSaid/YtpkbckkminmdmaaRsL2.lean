/- Contracts of the law's helpers: SameMsg; Put as a whole. Put as a whole; works. -/
import Derived.Test.YtpkbckkminmdmaaRsW11
import Derived.Laws.BytesArg
import Derived.Lib.SmallJoins
import Derived.Laws.StructEq
namespace Go.Proofs.Ytpkbckkminmdmaa
open Go.RowKit Go.Proofs.YtpkbckkminmdmaaW.PrintWords
attribute [local go_sem] alloc_drewN setCell_drewN isMap_alloc isMap_drew isMap_drewN isMap_setCell cell_setMap frozen_setMap setMap_drew setMap_drewN size_setMap field_piece0 field_data1 field_data3 field_data6

/-- Bytes can be read at an address. -/
def BIn (w : World) (A : Option Addr) (bs : List Int) : Prop :=
  0 < bs.length → ∃ ad, A = some ad ∧ ad.block < w.heap.size ∧ ∀ i, i < bs.length → w.cell? (ad.add i) = some (.int .u8 (bs.getD i 0))
theorem BIn.fr {w w' : World} {A : Option Addr} {bs : List Int} {S : Nat → Prop} (h : BIn w A bs) (hf : Fr S w w') (hS : ∀ ad, A = some ad → ¬ S ad.block) : BIn w' A bs := fun hp => by
  obtain ⟨ad, h1, h2, h3⟩ := h hp
  exact ⟨ad, h1, Nat.lt_of_lt_of_le h2 hf.size, fun i hi => (hf.cell (by rw [block_of_add]; exact h2) (by rw [block_of_add]; exact hS ad h1)).trans (h3 i hi)⟩
theorem BIn.fr0 {w w' : World} {A : Option Addr} {bs : List Int} (h : BIn w A bs) (hf : Fr (fun _ => False) w w') : BIn w' A bs := h.fr hf (fun _ _ h => h)
theorem Byt.bin {w : World} {blk cap : Nat} {bs : List Int} (h : Byt w blk cap bs) : BIn w (some ⟨blk, 0, none⟩) bs := fun _ =>
  ⟨⟨blk, 0, none⟩, rfl, h.lt, fun i hi => h.cells i (.int .u8 (bs.getD i 0)) (by
    unfold nums
    rw [List.getElem?_map, List.getElem?_eq_getElem hi, List.getD_eq_getElem?_getD, List.getElem?_eq_getElem hi]
    rfl)⟩
theorem bin_nil (w : World) : BIn w none [] := fun h => absurd h (Nat.lt_irrefl _)
theorem BIn.conv {w : World} {A : Option Addr} {bs : List Int} (h : BIn w A bs) (c : Nat) : (convert 31 9 (.slice A bs.length c)).run Try.prog w = .ok (.string (strOfNums bs)) w := by
  have key : ∀ ad : Addr, (∀ i, i < bs.length → w.cell? (ad.add i) = some (.int .u8 (bs.getD i 0))) → (convert 31 9 (.slice (some ad) bs.length c)).run Try.prog w = .ok (.string (strOfNums bs)) w := by
    intro ad hc
    have hl : (loadCells ad bs.length).run Try.prog w = .ok (bs.map (Value.int .u8)).toArray w := by
      have := run_loadCells_list (P := Try.prog) w ad (bs.map (Value.int .u8)) (fun j v hj => by
        have hjl : j < bs.length := by
          rcases Nat.lt_or_ge j bs.length with h | h
          · exact h
          · rw [List.getElem?_eq_none (by simpa using h)] at hj
            cases hj
        rw [hc j hjl, ← hj, List.getElem?_map, List.getElem?_eq_getElem hjl, List.getD_eq_getElem?_getD, List.getElem?_eq_getElem hjl]
        rfl)
      rwa [List.length_map] at this
    rw [run_convert_bytes_string w _ _ _ _ bs.length c Try.underlying31 Try.underlying5 Try.underlying9, run_bytesToString w _ bs.length c bs hl, foldl_push_bytes]
    rw [show (ByteArray.empty.data ++ (bs.map fun n => UInt8.ofNat n.toNat).toArray) = (bs.map fun n => UInt8.ofNat n.toNat).toArray from Array.empty_append]
    rfl
  cases bs with
  | nil =>
    cases A with
    | none => exact run_convert_bytes_nil w _ _ Try.underlying31 Try.underlying5 _ _ _ Try.underlying9
    | some ad => exact key ad (fun i hi => absurd hi (Nat.not_lt_zero _))
  | cons x bs =>
    obtain ⟨ad, rfl, _, hc⟩ := h (Nat.succ_pos _)
    exact key ad hc
/-- Bytes that were handed in. -/
theorem cell_lt {w : World} {a : Addr} {v : Value} (h : w.cell? a = some v) : a.block < w.heap.size := by
  unfold World.cell? at h
  rcases Nat.lt_or_ge a.block w.heap.size with hlt | hge
  · exact hlt
  · rw [Array.getElem?_eq_none hge] at h
    simp at h
theorem bin_of_reads {w : World} {A : Option Addr} {bs : List Int} (h : (Kd.int .u8).C w A bs.length bs) : BIn w A bs := fun hp => by
  obtain ⟨ad, rfl, hc⟩ := h.2.2 hp
  have one : ∀ i, i < bs.length → w.cell? (ad.add i) = some (.int .u8 (bs.getD i 0)) := fun i hi => by
    obtain ⟨c, _, rfl, hcell⟩ := hc i bs[i] (List.getElem?_eq_getElem hi)
    have := hcell 0 _ rfl
    rw [show i * (Kd.int .u8).sz + 0 = i from Nat.mul_one i] at this
    rw [this, List.getD_eq_getElem?_getD, List.getElem?_eq_getElem hi]
    rfl
  refine ⟨ad, rfl, ?_, one⟩
  have := cell_lt (one 0 hp)
  rwa [block_of_add] at this
theorem nums_inj : ∀ {a b : List Int}, (∀ x ∈ a, 0 ≤ x ∧ x < 256) → (∀ x ∈ b, 0 ≤ x ∧ x < 256) → a.map (fun n => UInt8.ofNat n.toNat) = b.map (fun n => UInt8.ofNat n.toNat) → a = b
  | [], [], _, _, _ => rfl
  | [], _ :: _, _, _, h => by simp at h
  | _ :: _, [], _, _, h => by simp at h
  | x :: a, y :: b, ha, hb, h => by
    simp only [List.map_cons, List.cons.injEq] at h
    have hx := ha x (by simp)
    have hy := hb y (by simp)
    have h1 := congrArg UInt8.toNat h.1
    simp only [UInt8.toNat_ofNat'] at h1
    have hxy : x = y := by omega
    rw [hxy, nums_inj (fun z hz => ha z (by simp [hz])) (fun z hz => hb z (by simp [hz])) h.2]
theorem str_eq {a b : List Int} (h : a = b) : ((strOfNums a).toList == (strOfNums b).toList) = true := by rw [h]; exact beq_self_eq_true _
theorem str_ne {a b : List Int} (ha : ∀ x ∈ a, 0 ≤ x ∧ x < 256) (hb : ∀ x ∈ b, 0 ≤ x ∧ x < 256) (h : a ≠ b) : ((strOfNums a).toList == (strOfNums b).toList) = false := by
  rw [← beq_toListBytes]
  show ((strOfNums a).data == (strOfNums b).data) = false
  rw [beq_eq_false_iff_ne]
  exact fun e => h (nums_inj ha hb (congrArg Array.toList e))
/-- Are two messages the same? -/
def sameMs (a b : Rs.Ms) : Bool := a.stream == b.stream && a.ord == b.ord && ((strOfNums a.bytes).toList == (strOfNums b.bytes).toList)
theorem sameMs_self (a : Rs.Ms) : sameMs a a = true := by simp [sameMs]
set_option maxRecDepth 100000 in
theorem same_any (a b : Rs.Ms) (A B : Option Addr) (c d : Nat) (w : World) (ha : BIn w A a.bytes) (hb : BIn w B b.bytes) :
    Calls Try.prog 33 #[.agg #[.int .u16 a.stream, .bool a.ord, .slice A a.bytes.length c], .agg #[.int .u16 b.stream, .bool b.ord, .slice B b.bytes.length d]] w (Same0 (.bool (sameMs a b)) w) := by
  have hca := (ha.fr0 (w' := (w.alloc (.cells #[.int .u16 a.stream, .bool a.ord, .slice A a.bytes.length c] 40)).alloc (.cells #[.int .u16 b.stream, .bool b.ord, .slice B b.bytes.length d] 40)) (by repeat (first | (with_reducible exact Fr.refl _ _) | (with_reducible refine Fr.drewN ?_ _) | (with_reducible refine Fr.drew ?_) | (with_reducible refine Fr.alloc ?_ _)))).conv c
  have hcb := (hb.fr0 (w' := (w.alloc (.cells #[.int .u16 a.stream, .bool a.ord, .slice A a.bytes.length c] 40)).alloc (.cells #[.int .u16 b.stream, .bool b.ord, .slice B b.bytes.length d] 40)) (by repeat (first | (with_reducible exact Fr.refl _ _) | (with_reducible refine Fr.drewN ?_ _) | (with_reducible refine Fr.drew ?_) | (with_reducible refine Fr.alloc ?_ _)))).conv d
  cases h1 : (a.stream == b.stream) with
  | false =>
    have hR : sameMs a b = false := by simp [sameMs, h1]
    rw [hR]
    go_enter Try.func33, Try.ntmps33
    go_wp2_with fail
    go_ret
    exact ⟨rfl, (by repeat (first | (with_reducible exact Fr.refl _ _) | (with_reducible refine Fr.drewN ?_ _) | (with_reducible refine Fr.drew ?_) | (with_reducible refine Fr.alloc ?_ _)))⟩
  | true =>
    cases h2 : (a.ord == b.ord) with
    | false =>
      have hR : sameMs a b = false := by simp [sameMs, h2]
      rw [hR]
      go_enter Try.func33, Try.ntmps33
      go_wp2_with fail
      go_ret
      exact ⟨rfl, (by repeat (first | (with_reducible exact Fr.refl _ _) | (with_reducible refine Fr.drewN ?_ _) | (with_reducible refine Fr.drew ?_) | (with_reducible refine Fr.alloc ?_ _)))⟩
    | true =>
      cases h3 : ((strOfNums a.bytes).toList == (strOfNums b.bytes).toList) with
      | true =>
        have hR : sameMs a b = true := by simp [sameMs, h1, h2, h3]
        rw [hR]
        go_enter Try.func33, Try.ntmps33
        go_wp2_with fail
        go_ret
        exact ⟨rfl, (by repeat (first | (with_reducible exact Fr.refl _ _) | (with_reducible refine Fr.drewN ?_ _) | (with_reducible refine Fr.drew ?_) | (with_reducible refine Fr.alloc ?_ _)))⟩
      | false =>
        have hR : sameMs a b = false := by simp [sameMs, h3]
        rw [hR]
        go_enter Try.func33, Try.ntmps33
        go_wp2_with fail
        go_ret
        exact ⟨rfl, (by repeat (first | (with_reducible exact Fr.refl _ _) | (with_reducible refine Fr.drewN ?_ _) | (with_reducible refine Fr.drew ?_) | (with_reducible refine Fr.alloc ?_ _)))⟩
end Go.Proofs.Ytpkbckkminmdmaa
namespace Go.Proofs.Ytpkbckkminmdmaa
open Go.RowKit Go.Proofs.YtpkbckkminmdmaaW.PrintWords
attribute [local go_sem] alloc_drewN setCell_drewN isMap_alloc isMap_drew isMap_drewN isMap_setCell cell_setMap frozen_setMap setMap_drew setMap_drewN size_setMap field_piece0 field_data1 field_data3 field_data6

theorem Rs.put_refused {s : Rs.St} {d : Rs.Pc} (h : (Rs.put s d).2 ≠ 0) : (Rs.put s d).1 = s := by
  unfold Rs.put at *
  split
  · rfl
  · split
    · rfl
    · split
      · rfl
      · split
        · rfl
        · rename_i h1 h2 h3 h4
          rw [if_neg h1, if_neg h2, if_neg h3, if_neg h4] at h
          simp only at h
          split at h
          · exact absurd rfl h
          · split at h <;> exact absurd rfl h
theorem Rs.put_taken {s : Rs.St} {d : Rs.Pc} (h : (Rs.put s d).2 = 0) : ¬ s.next.length ≤ d.stream.toNat ∧ ¬ d.bytes.length = 0 ∧ (!d.un && Rs.less16 d.ssn (Rs.nextOf s d.stream)) = false ∧ Rs.get s.L d.tsn = none := by
  unfold Rs.put at h
  split at h
  · cases h
  · split at h
    · cases h
    · split at h
      · cases h
      · split at h
        · cases h
        · rename_i h1 h2 h3 h4
          exact ⟨h1, h2, by simpa using h3, by simpa using h4⟩
def PutP (g : Nat) (s : Gs) (d : Rs.Pc) (w : World) (e : Ending) (w' : World) : Prop :=
  e = .returned (.int .i64 (Rs.put s.abs d).2) ∧ ∃ s', Upd g s s' (Rs.held s'.abs) w w' ∧ s'.abs = (Rs.put s.abs d).1 ∧ s'.next.length = s.next.length ∧ s'.turns ≤ s.turns + 1 ∧ (∀ x ∈ s'.L, x.p.bytes.length ≤ 100000)
theorem put_any (g : Nat) (s : Gs) (d : Rs.Pc) (A : Option Addr) (c : Nat) (w : World) (hr : RsAt w g s (Rs.held s.abs)) (hlim : ∀ x ∈ s.L, x.p.bytes.length ≤ 100000) (ht : s.turns < 1000) (h0 : 0 ≤ d.stream) (h1 : d.stream < 65536) (hs0 : 0 ≤ d.ssn) (hs1 : d.ssn < 65536) (ht0 : 0 ≤ d.tsn) (ht1 : d.tsn < 4294967296)
    (hn : d.bytes.length ≤ 100000) (hh : Rs.held s.abs < 1000000000) (hb : BIn w A d.bytes) :
    Calls Try.prog 42 #[.pointer (some ⟨g, 0, none⟩), .agg (dcells d A c)] w (PutP g s d w) := by
  by_cases hc : (Rs.put s.abs d).2 = 0
  · obtain ⟨a1, a2, a3, a4⟩ := Rs.put_taken hc
    have hpos : 0 < d.bytes.length := by omega
    obtain ⟨ad, rfl, hb1, hb2⟩ := hb hpos
    · refine (put_yes g s _ d ad c w hr hlim ht h0 h1 hs0 hs1 ht0 ht1 hn (held_nonneg _) hh (fun j u hu => ?_) hb1 a1 a2 a3 a4).mono ?_
      · have hj : j < d.bytes.length := by
          rcases Nat.lt_or_ge j d.bytes.length with h | h
          · exact h
          · rw [List.getElem?_eq_none (by rw [nums_len]; exact h)] at hu
            cases hu
        rw [hb2 j hj, ← hu]
        unfold nums
        rw [List.getElem?_map, List.getElem?_eq_getElem hj, List.getD_eq_getElem?_getD, List.getElem?_eq_getElem hj]
        rfl
      · rintro e w' ⟨he, s', h', hu, hab, hnl, htu, hh', hl'⟩
        refine ⟨he, s', ?_, hab, hnl, htu, hl'⟩
        have hL : Lim s := ⟨by omega, hlim⟩
        have hf := hr.ok.fine hL
        have hfd : Rs.Fine (s.abs.L ++ [d]) := by
          refine ⟨?_, ?_, ?_⟩
          · rw [List.map_append, List.nodup_append]
            refine ⟨hf.keys, by simp, fun a ha b hb e => ?_⟩
            rw [show List.map (fun x => x.tsn) [d] = [d.tsn] from rfl, List.mem_singleton] at hb
            obtain ⟨x, hx, hxe⟩ := List.mem_map.1 ha
            have := Rs.get_of_mem hf.keys hx
            rw [hxe, e, hb, a4] at this
            cases this
          · intro x hx
            rcases List.mem_append.1 hx with hx | hx
            · exact hf.rng x hx
            · rw [List.mem_singleton.1 hx]
              exact ⟨ht0, ht1⟩
          · have h2 := hL.L hr.ok
            have h3 : s.abs.L.length = s.L.length := by show (s.L.map (·.p)).length = _; rw [List.length_map]
            rw [List.length_append, h3]
            simp
            omega
        have := Rs.put_held hfd
        rw [if_pos hc] at this hh'
        rw [hab, this, ← hh']
        exact hu
  · refine (put_no g s _ d A c w hr hlim h0 h1 hn hc).mono ?_
    rintro e w' ⟨he, s', h', hu, hab, hnl, htu, hh', hl'⟩
    refine ⟨he, s', ?_, hab, hnl, htu, hl'⟩
    rw [if_neg hc] at hh'
    rw [hab, Rs.put_refused hc, ← hh']
    exact hu
example : Rs.put (Rs.new 2) ⟨5, 0, 0, false, false, true, [98]⟩ = (⟨[⟨5, 0, 0, false, false, true, [98]⟩], [0, 0], []⟩, 0) := by kernel_rfl
end Go.Proofs.Ytpkbckkminmdmaa
