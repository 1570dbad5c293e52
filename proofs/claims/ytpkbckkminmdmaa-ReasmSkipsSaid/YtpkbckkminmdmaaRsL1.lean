/- Contracts of the law's helpers: SameMsg; Put as a whole. -/
import Derived.Test.YtpkbckkminmdmaaRsW11
import Derived.Laws.BytesArg
import Derived.Lib.SmallJoins
import Derived.Laws.StructEq
namespace Go.Proofs.Ytpkbckkminmdmaa
open Go.RowKit Go.Proofs.YtpkbckkminmdmaaW.PrintWords
attribute [local go_sem] alloc_drewN setCell_drewN isMap_alloc isMap_drew isMap_drewN isMap_setCell cell_setMap frozen_setMap setMap_drew setMap_drewN size_setMap field_piece0 field_data1 field_data3 field_data6

/-- Bytes can be read at an address. -/
def BIn (w : World) (A : Option Addr) (bs : List Int) : Prop :=
  0 < bs.length → ∃ ad, A = some ad ∧ ad.block < w.heap.size ∧ ∀ i, i < bs.length → w.cell? (ad.add i) = some (.int .u8 (bs.getD i 0))
theorem BIn.fr {w w' : World} {A : Option Addr} {bs : List Int} {S : Nat → Prop} (h : BIn w A bs) (hf : Fr S w w') (hS : ∀ ad, A = some ad → ¬ S ad.block) : BIn w' A bs := fun hp => by
  obtain ⟨ad, h1, h2, h3⟩ := h hp
  exact ⟨ad, h1, Nat.lt_of_lt_of_le h2 hf.size, fun i hi => (hf.cell (by rw [block_of_add]; exact h2) (by rw [block_of_add]; exact hS ad h1)).trans (h3 i hi)⟩
theorem BIn.fr0 {w w' : World} {A : Option Addr} {bs : List Int} (h : BIn w A bs) (hf : Fr (fun _ => False) w w') : BIn w' A bs := h.fr hf (fun _ _ h => h)
theorem Byt.bin {w : World} {blk cap : Nat} {bs : List Int} (h : Byt w blk cap bs) : BIn w (some ⟨blk, 0, none⟩) bs := fun _ =>
  ⟨⟨blk, 0, none⟩, rfl, h.lt, fun i hi => h.cells i (.int .u8 (bs.getD i 0)) (by
    unfold nums
    rw [List.getElem?_map, List.getElem?_eq_getElem hi, List.getD_eq_getElem?_getD, List.getElem?_eq_getElem hi]
    rfl)⟩
theorem bin_nil (w : World) : BIn w none [] := fun h => absurd h (Nat.lt_irrefl _)
theorem BIn.conv {w : World} {A : Option Addr} {bs : List Int} (h : BIn w A bs) (c : Nat) : (convert 31 9 (.slice A bs.length c)).run Try.prog w = .ok (.string (strOfNums bs)) w := by
  have key : ∀ ad : Addr, (∀ i, i < bs.length → w.cell? (ad.add i) = some (.int .u8 (bs.getD i 0))) → (convert 31 9 (.slice (some ad) bs.length c)).run Try.prog w = .ok (.string (strOfNums bs)) w := by
    intro ad hc
    have hl : (loadCells ad bs.length).run Try.prog w = .ok (bs.map (Value.int .u8)).toArray w := by
      have := run_loadCells_list (P := Try.prog) w ad (bs.map (Value.int .u8)) (fun j v hj => by
        have hjl : j < bs.length := by
          rcases Nat.lt_or_ge j bs.length with h | h
          · exact h
          · rw [List.getElem?_eq_none (by simpa using h)] at hj
            cases hj
        rw [hc j hjl, ← hj, List.getElem?_map, List.getElem?_eq_getElem hjl, List.getD_eq_getElem?_getD, List.getElem?_eq_getElem hjl]
        rfl)
      rwa [List.length_map] at this
    rw [run_convert_bytes_string w _ _ _ _ bs.length c Try.underlying31 Try.underlying5 Try.underlying9, run_bytesToString w _ bs.length c bs hl, foldl_push_bytes]
    rw [show (ByteArray.empty.data ++ (bs.map fun n => UInt8.ofNat n.toNat).toArray) = (bs.map fun n => UInt8.ofNat n.toNat).toArray from Array.empty_append]
    rfl
  cases bs with
  | nil =>
    cases A with
    | none => exact run_convert_bytes_nil w _ _ Try.underlying31 Try.underlying5 _ _ _ Try.underlying9
    | some ad => exact key ad (fun i hi => absurd hi (Nat.not_lt_zero _))
  | cons x bs =>
    obtain ⟨ad, rfl, _, hc⟩ := h (Nat.succ_pos _)
    exact key ad hc
/-- Bytes that were handed in. -/
theorem cell_lt {w : World} {a : Addr} {v : Value} (h : w.cell? a = some v) : a.block < w.heap.size := by
  unfold World.cell? at h
  rcases Nat.lt_or_ge a.block w.heap.size with hlt | hge
  · exact hlt
  · rw [Array.getElem?_eq_none hge] at h
    simp at h
theorem bin_of_reads {w : World} {A : Option Addr} {bs : List Int} (h : (Kd.int .u8).C w A bs.length bs) : BIn w A bs := fun hp => by
  obtain ⟨ad, rfl, hc⟩ := h.2.2 hp
  have one : ∀ i, i < bs.length → w.cell? (ad.add i) = some (.int .u8 (bs.getD i 0)) := fun i hi => by
    obtain ⟨c, _, rfl, hcell⟩ := hc i bs[i] (List.getElem?_eq_getElem hi)
    have := hcell 0 _ rfl
    rw [show i * (Kd.int .u8).sz + 0 = i from Nat.mul_one i] at this
    rw [this, List.getD_eq_getElem?_getD, List.getElem?_eq_getElem hi]
    rfl
  refine ⟨ad, rfl, ?_, one⟩
  have := cell_lt (one 0 hp)
  rwa [block_of_add] at this
theorem nums_inj : ∀ {a b : List Int}, (∀ x ∈ a, 0 ≤ x ∧ x < 256) → (∀ x ∈ b, 0 ≤ x ∧ x < 256) → a.map (fun n => UInt8.ofNat n.toNat) = b.map (fun n => UInt8.ofNat n.toNat) → a = b
  | [], [], _, _, _ => rfl
  | [], _ :: _, _, _, h => by simp at h
  | _ :: _, [], _, _, h => by simp at h
  | x :: a, y :: b, ha, hb, h => by
    simp only [List.map_cons, List.cons.injEq] at h
    have hx := ha x (by simp)
    have hy := hb y (by simp)
    have h1 := congrArg UInt8.toNat h.1
    simp only [UInt8.toNat_ofNat'] at h1
    have hxy : x = y := by omega
    rw [hxy, nums_inj (fun z hz => ha z (by simp [hz])) (fun z hz => hb z (by simp [hz])) h.2]
theorem str_eq {a b : List Int} (h : a = b) : ((strOfNums a).toList == (strOfNums b).toList) = true := by rw [h]; exact beq_self_eq_true _
theorem str_ne {a b : List Int} (ha : ∀ x ∈ a, 0 ≤ x ∧ x < 256) (hb : ∀ x ∈ b, 0 ≤ x ∧ x < 256) (h : a ≠ b) : ((strOfNums a).toList == (strOfNums b).toList) = false := by
  rw [← beq_toListBytes]
  show ((strOfNums a).data == (strOfNums b).data) = false
  rw [beq_eq_false_iff_ne]
  exact fun e => h (nums_inj ha hb (congrArg Array.toList e))
/-- Are two messages the same? -/
def sameMs (a b : Rs.Ms) : Bool := a.stream == b.stream && a.ord == b.ord && ((strOfNums a.bytes).toList == (strOfNums b.bytes).toList)
theorem sameMs_self (a : Rs.Ms) : sameMs a a = true := by simp [sameMs]
set_option maxRecDepth 100000 in
theorem same_any (a b : Rs.Ms) (A B : Option Addr) (c d : Nat) (w : World) (ha : BIn w A a.bytes) (hb : BIn w B b.bytes) :
    Calls Try.prog 33 #[.agg #[.int .u16 a.stream, .bool a.ord, .slice A a.bytes.length c], .agg #[.int .u16 b.stream, .bool b.ord, .slice B b.bytes.length d]] w (Same0 (.bool (sameMs a b)) w) := by
  have hca := (ha.fr0 (w' := (w.alloc (.cells #[.int .u16 a.stream, .bool a.ord, .slice A a.bytes.length c] 40)).alloc (.cells #[.int .u16 b.stream, .bool b.ord, .slice B b.bytes.length d] 40)) (by repeat (first | (with_reducible exact Fr.refl _ _) | (with_reducible refine Fr.drewN ?_ _) | (with_reducible refine Fr.drew ?_) | (with_reducible refine Fr.alloc ?_ _)))).conv c
  have hcb := (hb.fr0 (w' := (w.alloc (.cells #[.int .u16 a.stream, .bool a.ord, .slice A a.bytes.length c] 40)).alloc (.cells #[.int .u16 b.stream, .bool b.ord, .slice B b.bytes.length d] 40)) (by repeat (first | (with_reducible exact Fr.refl _ _) | (with_reducible refine Fr.drewN ?_ _) | (with_reducible refine Fr.drew ?_) | (with_reducible refine Fr.alloc ?_ _)))).conv d
  cases h1 : (a.stream == b.stream) with
  | false =>
    have hR : sameMs a b = false := by simp [sameMs, h1]
    rw [hR]
    go_enter Try.func33, Try.ntmps33
    go_wp2_with fail
    go_ret
    exact ⟨rfl, (by repeat (first | (with_reducible exact Fr.refl _ _) | (with_reducible refine Fr.drewN ?_ _) | (with_reducible refine Fr.drew ?_) | (with_reducible refine Fr.alloc ?_ _)))⟩
  | true =>
    cases h2 : (a.ord == b.ord) with
    | false =>
      have hR : sameMs a b = false := by simp [sameMs, h2]
      rw [hR]
      go_enter Try.func33, Try.ntmps33
      go_wp2_with fail
      go_ret
      exact ⟨rfl, (by repeat (first | (with_reducible exact Fr.refl _ _) | (with_reducible refine Fr.drewN ?_ _) | (with_reducible refine Fr.drew ?_) | (with_reducible refine Fr.alloc ?_ _)))⟩
    | true =>
      cases h3 : ((strOfNums a.bytes).toList == (strOfNums b.bytes).toList) with
      | true =>
        have hR : sameMs a b = true := by simp [sameMs, h1, h2, h3]
        rw [hR]
        go_enter Try.func33, Try.ntmps33
        go_wp2_with fail
        go_ret
        exact ⟨rfl, (by repeat (first | (with_reducible exact Fr.refl _ _) | (with_reducible refine Fr.drewN ?_ _) | (with_reducible refine Fr.drew ?_) | (with_reducible refine Fr.alloc ?_ _)))⟩
      | false =>
        have hR : sameMs a b = false := by simp [sameMs, h3]
        rw [hR]
        go_enter Try.func33, Try.ntmps33
        go_wp2_with fail
        go_ret
        exact ⟨rfl, (by repeat (first | (with_reducible exact Fr.refl _ _) | (with_reducible refine Fr.drewN ?_ _) | (with_reducible refine Fr.drew ?_) | (with_reducible refine Fr.alloc ?_ _)))⟩
end Go.Proofs.Ytpkbckkminmdmaa
