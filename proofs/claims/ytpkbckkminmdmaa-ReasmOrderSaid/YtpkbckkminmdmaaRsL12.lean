/- of, alike, mixed: rows of messages compared. -/
import Derived.Test.YtpkbckkminmdmaaRsL11
import Derived.Test.YtpkbckkminmdmaaRsPure9
import Derived.Test.YtpkbckkminmdmaaPReasmOrderx3
namespace Go.Proofs.Ytpkbckkminmdmaa
open Go.RowKit Go.Proofs.YtpkbckkminmdmaaW.PrintWords Go.Proofs.YtpkbckkminmdmaaW.PrintMore Go.Proofs.Ytpkbckkminmdmaa.PReasmOrder

def toS (m : Rs.Ms) : S40 := ⟨m.stream, m.ord, m.bytes⟩
theorem rdS (l : List Rs.Ms) (i : Nat) (hi : i < l.length) : rd_T40 (l.map toS) (i : Int) = toS l[i] := by
  unfold rd_T40
  rw [Int.toNat_natCast, List.getD_eq_getElem?_getD, List.getElem?_map, List.getElem?_eq_getElem hi]
  rfl
theorem same_self (m : S40) : fairleadlaw18_SameMsg.f m.f0 m.f1 m.f2 m.f0 m.f1 m.f2 = some true := by
  unfold fairleadlaw18_SameMsg.f
  rw [if_pos rfl, if_pos (beq_self_eq_true _)]
  rw [beq_self_eq_true]
def sameS (m a : S40) : Bool := (fairleadlaw18_SameMsg.f m.f0 m.f1 m.f2 a.f0 a.f1 a.f2).getD false
theorem same_some (m a : S40) : fairleadlaw18_SameMsg.f m.f0 m.f1 m.f2 a.f0 a.f1 a.f2 = some (sameS m a) := by
  unfold sameS fairleadlaw18_SameMsg.f
  split
  · split <;> rfl
  · rfl
theorem alike_run (l : List Rs.Ms) (hl : l.length ≤ 1000) : ∀ (d k i : Nat), i + d = l.length → d < k → fairleadlaw18_alike.l0 k (l.map toS) (l.map toS) (i : Int) = some true
  | 0, k, i, hi, hk => by
    obtain ⟨k, rfl⟩ : ∃ m, k = m + 1 := ⟨k - 1, by omega⟩
    unfold fairleadlaw18_alike.l0
    rw [if_neg (by simp; omega)]
  | d + 1, k, i, hi, hk => by
    obtain ⟨k, rfl⟩ : ∃ m, k = m + 1 := ⟨k - 1, by omega⟩
    unfold fairleadlaw18_alike.l0
    rw [if_pos (by simp; omega), if_pos (by omega), if_pos (by simp; omega), rdS l i (by omega), same_self]
    simp only [Option.bind_some, if_true]
    rw [wrap64_small (by omega) (by omega)]
    exact alike_run l hl d k (i + 1) (by omega) (by omega)
theorem count_run (l : List Rs.Ms) (hl : l.length ≤ 1000) (a : S40) : ∀ (d k i acc : Nat), i + d = l.length → d < k → acc ≤ i → fairleadlaw18_count.l0 k (l.map toS) (acc : Int) (i : Int) a.f0 a.f1 a.f2 = some (((acc + ((l.drop i).filter fun m => sameS (toS m) a).length : Nat) : Int))
  | 0, k, i, acc, hi, hk, _ => by
    obtain ⟨k, rfl⟩ : ∃ m, k = m + 1 := ⟨k - 1, by omega⟩
    unfold fairleadlaw18_count.l0
    rw [if_neg (by simp; omega), List.drop_eq_nil_of_le (by omega)]
    rfl
  | d + 1, k, i, acc, hi, hk, ha => by
    obtain ⟨k, rfl⟩ : ∃ m, k = m + 1 := ⟨k - 1, by omega⟩
    have hlt : i < l.length := by omega
    unfold fairleadlaw18_count.l0
    rw [if_pos (by simp; omega), if_pos (by omega), rdS l i hlt, same_some, List.drop_eq_getElem_cons hlt, List.filter_cons]
    simp only [Option.bind_some]
    cases h : sameS (toS l[i]) a with
    | true =>
      simp only [if_true]
      rw [wrap64_small (by omega) (by omega), wrap64_small (by omega) (by omega)]
      have := count_run l hl a d k (i + 1) (acc + 1) (by omega) (by omega) (by omega)
      rw [List.length_cons, show acc + (((l.drop (i + 1)).filter fun m => sameS (toS m) a).length + 1) = acc + 1 + ((l.drop (i + 1)).filter fun m => sameS (toS m) a).length by omega, ← this]
      rfl
    | false =>
      simp only [Bool.false_eq_true, if_false]
      rw [wrap64_small (by omega) (by omega)]
      exact count_run l hl a d k (i + 1) acc (by omega) (by omega) (by omega)
theorem mixed_run (l l' : List Rs.Ms) (hl : l.length ≤ 1000) (hp : l.Perm l') : ∀ (d k i : Nat), i + d = l.length → d + l.length + 1 < k → fairleadlaw18_mixed.l0 k (l.map toS) (l'.map toS) (i : Int) = some true
  | 0, k, i, hi, hk => by
    obtain ⟨k, rfl⟩ : ∃ m, k = m + 1 := ⟨k - 1, by omega⟩
    unfold fairleadlaw18_mixed.l0
    rw [if_neg (by simp; omega)]
  | d + 1, k, i, hi, hk => by
    obtain ⟨k, rfl⟩ : ∃ m, k = m + 1 := ⟨k - 1, by omega⟩
    have hll : l'.length = l.length := hp.length_eq.symm
    have c1 := count_run l hl (toS (l[i]'(by omega))) l.length k 0 0 (by omega) (by omega) (by omega)
    have c2 := count_run l' (by omega) (toS (l[i]'(by omega))) l'.length k 0 0 (by omega) (by omega) (by omega)
    unfold fairleadlaw18_mixed.l0
    rw [if_pos (by simp; omega), if_pos (by omega), rdS l i (by omega)]
    unfold fairleadlaw18_count.f
    rw [show (0 : Int) = ((0 : Nat) : Int) from rfl, c1, c2]
    simp only [Option.bind_some, List.drop_zero]
    rw [if_pos (by rw [(hp.filter _).length_eq]), wrap64_small (by omega) (by omega)]
    exact mixed_run l l' hl hp d k (i + 1) (by omega) (by omega)
theorem alike_any (A B : Option Addr) (c d : Nat) (l : List Rs.Ms) (w : World) (hl : l.length ≤ 1000) (hA : k40.C w A l.length (l.map toS)) (hc : l.length ≤ c) (hB : k40.C w B l.length (l.map toS)) (hd : l.length ≤ d) :
    Calls Try.prog 43 #[.slice A l.length c, .slice B l.length d] w (Same0 (.bool true) w) := by
  have e : (l.map toS).length = l.length := List.length_map _
  have h := fairleadlaw18_alike.calls (l.length + 1) A c (l.map toS) B d (l.map toS) true w (by rwa [e]) (by rwa [e]) (by rwa [e]) (by rwa [e]) (by
    unfold fairleadlaw18_alike.f
    rw [if_pos rfl]
    exact alike_run l hl l.length (l.length + 1) 0 (by omega) (by omega))
  rw [e] at h
  refine h.mono ?_
  rintro e w' ⟨rfl, hb⟩
  exact ⟨rfl, Fr.of_below hb⟩
theorem mixed_any (A B : Option Addr) (c d : Nat) (l l' : List Rs.Ms) (w : World) (hl : l.length ≤ 1000) (hp : l.Perm l') (hA : k40.C w A l.length (l.map toS)) (hc : l.length ≤ c) (hB : k40.C w B l'.length (l'.map toS)) (hd : l'.length ≤ d) :
    Calls Try.prog 45 #[.slice A l.length c, .slice B l'.length d] w (Same0 (.bool true) w) := by
  have e : (l.map toS).length = l.length := List.length_map _
  have e' : (l'.map toS).length = l'.length := List.length_map _
  have h := fairleadlaw18_mixed.calls (l.length + l.length + 2) A c (l.map toS) B d (l'.map toS) true w (by rwa [e]) (by rwa [e]) (by rwa [e']) (by rwa [e']) (by
    unfold fairleadlaw18_mixed.f
    rw [if_pos (by rw [e, e', hp.length_eq])]
    exact mixed_run l l' hl hp l.length (l.length + l.length + 2) 0 (by omega) (by omega))
  rw [e, e'] at h
  refine h.mono ?_
  rintro e w' ⟨rfl, hb⟩
  exact ⟨rfl, Fr.of_below hb⟩

def OkM (w : World) (l : List Mp) : Prop := ∀ x ∈ l, BIn w x.A x.m.bytes ∧ x.m.bytes.length ≤ x.c ∧ x.m.bytes.length ≤ 1000000
theorem OkM.fr0 {w w' : World} {l : List Mp} (h : OkM w l) (hf : Fr (fun _ => False) w w') : OkM w' l := fun x hx => ⟨(h x hx).1.fr0 hf, (h x hx).2⟩
theorem mrow_reps {w : World} : ∀ {l : List Mp}, OkM w l → Reps (k40.K w) 3 ((l.map (·.m)).map toS) (mrow l)
  | [], _ => Reps.none _ _
  | x :: l, h => by
    have ih := mrow_reps (l := l) fun y hy => h y (List.mem_cons_of_mem _ hy)
    have e : mrow (x :: l) = .int .u16 x.m.stream :: .bool x.m.ord :: .slice x.A x.m.bytes.length x.c :: mrow l := by unfold mrow; rw [List.flatMap_cons]; rfl
    rw [e]
    refine ⟨by have := ih.1; simp at this ⊢; omega, fun j p hj => ?_⟩
    cases j with
    | zero =>
      obtain rfl : toS x.m = p := by simpa using hj
      obtain ⟨h1, h2, h3⟩ := h x List.mem_cons_self
      rw [Nat.zero_mul]
      exact k40_mk w (toS x.m) h2 (c_of_bin h1 h3)
    | succ j =>
      have := ih.2 j p (by simpa using hj)
      rw [Nat.succ_mul]
      exact this
theorem c_mrow {w : World} {base c : Nat} {A : Option Addr} {l : List Mp} (hO : w.ownsRow base 40 3 (.slice A l.length c) l.length (mrow l)) (h : OkM w l) : k40.C w A l.length ((l.map (·.m)).map toS) ∧ l.length ≤ c := by
  obtain ⟨A', c', e, hr⟩ := own_reads_row hO (mrow_reps h) (by simp)
  injection e with e1 e2 e3
  subst e1
  exact ⟨hr, own_le hO⟩
def selP (st : Int) (b : Bool) (l : List Mp) : List Mp := l.filter fun x => x.m.stream == st && x.m.ord == b
theorem selP_m (st : Int) (b : Bool) (l : List Mp) : (selP st b l).map (·.m) = Rs.selM st b (l.map (·.m)) := by
  unfold selP Rs.selM
  rw [List.filter_map]
  rfl
theorem selP_take (st : Int) (b : Bool) (l : List Mp) (i : Nat) (hi : i < l.length) : selP st b (l.take (i + 1)) = selP st b (l.take i) ++ (if l[i].m.stream == st && l[i].m.ord == b then [l[i]] else []) := by
  unfold selP
  rw [List.take_succ_eq_append_getElem hi, List.filter_append, List.filter_cons, List.filter_nil]
theorem selP_len (st : Int) (b : Bool) (l : List Mp) (i : Nat) : (selP st b (l.take i)).length ≤ i := Nat.le_trans (List.length_filter_le _ _) (by rw [List.length_take]; exact Nat.min_le_left _ _)
theorem selP_mem {st : Int} {b : Bool} {l : List Mp} {i : Nat} {x : Mp} (h : x ∈ selP st b (l.take i)) : x ∈ l := List.mem_of_mem_take (List.mem_filter.1 h).1
def OfP (st : Int) (b : Bool) (l : List Mp) (w : World) (e : Ending) (w' : World) : Prop :=
  ∃ A c, e = .returned (.slice A (Rs.selM st b (l.map (·.m))).length c) ∧ Fr (fun _ => False) w w' ∧ k40.C w' A (Rs.selM st b (l.map (·.m))).length ((Rs.selM st b (l.map (·.m))).map toS) ∧ (Rs.selM st b (l.map (·.m))).length ≤ c
set_option maxRecDepth 100000 in
set_option maxHeartbeats 4000000 in
theorem of_any (A0 : Option Addr) (c0 base0 : Nat) (l : List Mp) (st : Int) (b : Bool) (w : World) (hO : w.ownsRow base0 40 3 (.slice A0 l.length c0) l.length (mrow l)) (hl : l.length ≤ 1000) (hB : OkM w l) :
    Calls Try.prog 44 #[.slice A0 l.length c0, .int .u16 st, .bool b] w (OfP st b l w) := by
  go_enter Try.func44, Try.ntmps44
  go_wp2_with fail
  go_loopg [7, 8] l.length (fun k v7 v8 wr => ∃ (i : Nat) (A : Option Addr) (c : Nat), v7 = .slice A (selP st b (l.take i)).length c ∧ v8 = .int .i64 i ∧ i ≤ l.length ∧ k = l.length - i ∧ Fr (fun _ => False) w wr ∧
    wr.ownsRow w.heap.size 40 3 (.slice A (selP st b (l.take i)).length c) (selP st b (l.take i)).length (mrow (selP st b (l.take i))))
  case atStart => exact ⟨0, none, 0, rfl, rfl, Nat.zero_le _, rfl, (by repeat (first | (with_reducible exact Fr.refl _ _) | (with_reducible refine Fr.drewN ?_ _) | (with_reducible refine Fr.drew ?_) | (with_reducible refine Fr.alloc ?_ _))), ⟨by simp [mrow, selP], .inl ⟨rfl, rfl⟩⟩⟩
  case round =>
    obtain ⟨i, A, c, rfl, rfl, hi, hk, hF, hR⟩ := hrel
    have HK := Lib.hid hk
    have HR := Lib.hid hR
    clear hk hR
    by_cases hlt : i < l.length
    · have hd1 : decide ((i : Int) < l.length) = true := decide_eq_true (by omega)
      obtain ⟨g, rfl, hMr⟩ := mread_of hO (by omega)
      have hM2 := hMr.fr hF (fun h => h)
      have k0 : wr.cell? ⟨g, i * 3, none⟩ = some (.int .u16 l[i].m.stream) := hM2.at_ i hlt 0 (by decide)
      have k1 : wr.cell? ⟨g, i * 3 + 1, none⟩ = some (.bool l[i].m.ord) := hM2.at_ i hlt 1 (by decide)
      have k2 : wr.cell? ⟨g, i * 3 + 2, none⟩ = some (.slice l[i].A l[i].m.bytes.length l[i].c) := hM2.at_ i hlt 2 (by decide)
      have lg := hM2.lt
      have HST := Lib.hid (selP_take st b l i hlt)
      have HLN := Lib.hid (selP_len st b l i)
      clear hM2 hMr
      generalize selP st b (l.take i) = out at *
      generalize l[i] = x at *
      by_cases hs : (x.m.stream == st) = true
      · have bs := hs
        by_cases ho : (x.m.ord == b) = true
        · have bo := ho
          have haL : (out.length + 1) * 32 ≤ 140737488355328 := by have := HLN.out; omega
          have one : ∀ u ∈ [Value.int .u16 x.m.stream, .bool x.m.ord, .slice x.A x.m.bytes.length x.c], u.oneCell' = true := by
            intro u hu; simp only [List.mem_cons, List.not_mem_nil, or_false] at hu; rcases hu with rfl | rfl | rfl <;> rfl
          have HONE := Lib.hid one
          have HS := Lib.hid hF.size
          clear one
          go_wp2_with (first
            | ((with_reducible refine gate_builtin (b := .append) (xs := #[.tmp 31, .tmp 36]) rfl ?_); at_builtin; go_must (refine app_cells w.heap.size (.tmp 31) (.tmp 36) 54 40 (.agg #[.int .u16 0, .bool false, .slice none 0 0]) 3 32 (.slice A out.length c) out.length (mrow out) [.int .u16 x.m.stream, .bool x.m.ord, .slice x.A x.m.bytes.length x.c] ?hW ?hg ?ho Try.underlying54 info_msg rfl (by decide) (by decide) ?hs ?hx rfl rfl HONE.out HR.out HS.out haL ?_; (case hW => exact rfl); (case hg => rfl); (case ho => rfl); (case hs => rfl); (case hx => rfl)); intro v9 w9 hO9 hG9 hN9; obtain ⟨A9, c9, rfl⟩ := own_slice hO9; have HO9 := Lib.hid hO9; have HG9 := Lib.hid hG9; clear hO9 hG9 hN9))
          go_roundg (l.length - (i + 1))
          case measure => rw [HK.out]; omega
          case rel =>
            have e : selP st b (l.take (i + 1)) = out ++ [x] := by rw [HST.out, bs, bo]; rfl
            refine ⟨i + 1, A9, c9, ?_, by go_num, hlt, rfl, hF.grown HG9.out (fun k hk => .inr (own_base HR.out k hk)), ?_⟩
            · rw [e, List.length_append]; rfl
            · rw [e, mrow_snoc, List.length_append]; exact HO9.out
        · have bo : (x.m.ord == b) = false := by simpa using ho
          go_wp2_with fail
          go_roundg (l.length - (i + 1))
          case measure => rw [HK.out]; omega
          case rel =>
            have e : selP st b (l.take (i + 1)) = out := by rw [HST.out, bo, Bool.and_false]; simp
            exact ⟨i + 1, A, c, by rw [e], by go_num, hlt, rfl, hF.trans (by repeat (first | (with_reducible exact Fr.refl _ _) | (with_reducible refine Fr.drewN ?_ _) | (with_reducible refine Fr.drew ?_) | (with_reducible refine Fr.alloc ?_ _))), by rw [e]; exact own_fr0 HR.out (by repeat (first | (with_reducible exact Fr.refl _ _) | (with_reducible refine Fr.drewN ?_ _) | (with_reducible refine Fr.drew ?_) | (with_reducible refine Fr.alloc ?_ _)))⟩
      · have bs : (x.m.stream == st) = false := by simpa using hs
        go_wp2_with fail
        go_roundg (l.length - (i + 1))
        case measure => rw [HK.out]; omega
        case rel =>
          have e : selP st b (l.take (i + 1)) = out := by rw [HST.out, bs, Bool.false_and]; simp
          exact ⟨i + 1, A, c, by rw [e], by go_num, hlt, rfl, hF.trans (by repeat (first | (with_reducible exact Fr.refl _ _) | (with_reducible refine Fr.drewN ?_ _) | (with_reducible refine Fr.drew ?_) | (with_reducible refine Fr.alloc ?_ _))), by rw [e]; exact own_fr0 HR.out (by repeat (first | (with_reducible exact Fr.refl _ _) | (with_reducible refine Fr.drewN ?_ _) | (with_reducible refine Fr.drew ?_) | (with_reducible refine Fr.alloc ?_ _)))⟩
    · have hd1 : decide ((i : Int) < l.length) = false := decide_eq_false (by omega)
      obtain rfl : i = l.length := by omega
      go_wp2_with fail
      go_ret
      have e : selP st b (l.take l.length) = selP st b l := by rw [List.take_length]
      rw [e] at HR
      have hB2 : OkM wr (selP st b l) := fun x hx => (hB.fr0 hF) x (List.mem_filter.1 hx).1
      obtain ⟨h1, h2⟩ := c_mrow HR.out hB2
      rw [selP_m] at h1
      have hlen : (selP st b l).length = (Rs.selM st b (l.map (·.m))).length := by rw [← selP_m, List.length_map]
      refine ⟨A, c, by rw [e, hlen]; rfl, hF.trans (by repeat (first | (with_reducible exact Fr.refl _ _) | (with_reducible refine Fr.drewN ?_ _) | (with_reducible refine Fr.drew ?_) | (with_reducible refine Fr.alloc ?_ _))), ?_, by rw [← hlen]; exact h2⟩
      rw [← hlen]
      exact h1
end Go.Proofs.Ytpkbckkminmdmaa
