/- Contract of package spans: Gaps. -/
import Derived.Deep.LoopGhost
import Derived.Laws.EntriesVeiled
import Derived.Test.YtpkbckkminmdmaaWWords
import Derived.Test.YtpkbckkminmdmaaSpW6
namespace Go.Proofs.Ytpkbckkminmdmaa
open Go.RowKit Go.Proofs.YtpkbckkminmdmaaW.PrintWords
attribute [local go_sem] alloc_drewN setCell_drewN isMap_alloc isMap_drew isMap_drewN isMap_setCell cell_setMap frozen_setMap setMap_drew setMap_drewN size_setMap

/-! ### a row of gaps -/
def gcs (l : List (Nat × Nat)) : List Value := l.flatMap fun g => [.int .u16 g.1, .int .u16 g.2]
theorem gcs_snoc (l : List (Nat × Nat)) (p q : Nat) : gcs (l ++ [(p, q)]) = gcs l ++ [.int .u16 p, .int .u16 q] := by unfold gcs; rw [List.flatMap_append]; rfl
theorem gcs_len (l : List (Nat × Nat)) : (gcs l).length = l.length * 2 := by
  induction l with
  | nil => rfl
  | cons a l ih => show (_ :: _ :: gcs l).length = _; simp [ih]; omega
theorem gcs_get : ∀ (l : List (Nat × Nat)) (i p q : Nat), l[i]? = some (p, q) → (gcs l)[i * 2]? = some (.int .u16 p) ∧ (gcs l)[i * 2 + 1]? = some (.int .u16 q)
  | [], i, p, q, h => by simp at h
  | a :: l, 0, p, q, h => by
    simp at h
    subst h
    exact ⟨rfl, rfl⟩
  | a :: l, i + 1, p, q, h => by
    rw [List.getElem?_cons_succ] at h
    have ih := gcs_get l i p q h
    have e : gcs (a :: l) = .int .u16 a.1 :: .int .u16 a.2 :: gcs l := rfl
    rw [e, show (i + 1) * 2 = i * 2 + 1 + 1 by omega]
    exact ⟨by simpa using ih.1, by simpa using ih.2⟩
/-- A row of gaps in memory of its own. -/
def GRow (w : World) (base : Nat) (A : Option Addr) (c : Nat) (l : List (Nat × Nat)) : Prop := w.ownsRow base 76 2 (.slice A l.length c) l.length (gcs l)
section
variable {w w1 : World} {base c gl : Nat} {A : Option Addr} {l : List (Nat × Nat)}
theorem GRow.fr {S : Nat → Prop} (h : GRow w base A c l) (hf : Fr S w w1) (hS : ∀ k, (Value.slice A l.length c).ownBlock = some k → ¬ S k) : GRow w1 base A c l :=
  own_move h fun k hk => hf.block k (own_lt h k hk) (hS k hk)
theorem GRow.fr0 (h : GRow w base A c l) (hf : Fr (fun _ => False) w w1) : GRow w1 base A c l := h.fr hf fun _ _ h => h
theorem GRow.weaken (h : GRow w base A c l) {b' : Nat} (hb : b' ≤ base) : GRow w b' A c l := by
  refine ⟨h.1, ?_⟩
  rcases h.2 with hn | ⟨g, cap, cur, hv, hbg, rest⟩
  · exact .inl hn
  · exact .inr ⟨g, cap, cur, hv, Nat.le_trans hb hbg, rest⟩
theorem GRow.ptr (h : GRow w base A c l) (hp : 0 < l.length) : ∃ gl cur, A = some ⟨gl, 0, none⟩ ∧ base ≤ gl ∧ Blk w gl 76 cur ∧ l.length ≤ c ∧ c ≤ maxLen ∧ cur.size = c * 2 ∧ cur.toList.take (l.length * 2) = gcs l := by
  rcases h.2 with ⟨_, hz⟩ | ⟨g, cap, cur, hv, hg, hb, h1, h2, h3, h4⟩
  · omega
  · injection hv with a b d
    subst a d
    exact ⟨g, cur, rfl, hg, hb, h1, h2, h3, h4⟩
theorem GRow.at_ (h : GRow w base (some ⟨gl, 0, none⟩) c l) {i p q : Nat} (hi : l[i]? = some (p, q)) : w.cell? ⟨gl, i * 2, none⟩ = some (.int .u16 p) ∧ w.cell? ⟨gl, i * 2 + 1, none⟩ = some (.int .u16 q) := by
  have hlt := (List.getElem?_eq_some_iff.1 hi).1
  obtain ⟨gl', cur, e, _, hb, _, _, h3, h4⟩ := h.ptr (by omega)
  injection e with e
  injection e with e
  subst e
  obtain ⟨g1, g2⟩ := gcs_get l i p q hi
  rw [hb.cell, hb.cell, ← Array.getElem?_toList, ← Array.getElem?_toList]
  have e1 := congrArg (fun l : List Value => l[i * 2]?) h4
  have e2 := congrArg (fun l : List Value => l[i * 2 + 1]?) h4
  rw [List.getElem?_take_of_lt (by omega)] at e1 e2
  exact ⟨e1.trans g1, e2.trans g2⟩
theorem GRow.set {i : List (Nat × Nat)} {p q : Nat} (h : GRow w base (some ⟨gl, 0, none⟩) c (i ++ [(p, q)])) (d : Nat) : GRow (w.setCell ⟨gl, i.length * 2 + 1, none⟩ (.int .u16 d)) base (some ⟨gl, 0, none⟩) c (i ++ [(p, d)]) := by
  obtain ⟨gl', cur, e, hg, hb, h1, h2, h3, h4⟩ := h.ptr (by simp)
  injection e with e
  injection e with e
  subst e
  have hl : (i ++ [(p, q)]).length = i.length + 1 := by simp
  have hl2 : (i ++ [(p, d)]).length = i.length + 1 := by simp
  rw [hl] at h1 h4
  unfold GRow
  rw [hl2]
  refine ⟨by rw [gcs_len]; simp, .inr ⟨gl, c, _, rfl, hg, hb.set (i.length * 2 + 1) (.int .u16 d), h1, h2, by simpa using h3, ?_⟩⟩
  rw [Array.toList_setIfInBounds, List.take_set, h4, gcs_snoc, gcs_snoc, List.set_append_right _ _ (by rw [gcs_len]; omega), gcs_len, show i.length * 2 + 1 - i.length * 2 = 1 by omega]
  rfl
end
section
variable {P : Program} {ops : Array Oper} {rest : List Oper} {o : Oper} {a : Act} {Q : Exit → Act → World → Prop}
theorem app_row {W W' : World} (base : Nat) (s x : Operand) (t e : TypeId) (z : Value) (size bytes : Nat) (v : Value) (n : Nat) (xs ys : List Value) (hW : W' = W.alloc (.cells ys.toArray e)) (hgd : o.guard = none)
    (ho : o.op = .call { callee := .builtin .append, args := #[s, x], argTypes := #[t, t] })
    (ht : P.underlying t = some (.slice e)) (hinfo : (P.info? e).map (fun i => (i.zero, i.size, i.bytes)) = some (some z, size, bytes)) (hz : z.cells.size = size) (hs0 : 0 < size) (hb0 : 0 < bytes)
    (hs : a.eval s = v) {gx : Nat} (hx : a.eval x = .slice (some ⟨gx, 0, none⟩) 1 1) (hgx : gx = W.heap.size) (hys : ys.length = size) (h1 : ∀ u ∈ ys, u.oneCell' = true)
    (HO : W.ownsRow base e size v n xs) (hbase : base ≤ W.heap.size) (hl : (n + 1) * bytes ≤ 140737488355328)
    (h : ∀ v1 w1, w1.ownsRow base e size v1 (n + 1) (xs ++ ys) → W.grownBy w1 v.ownBlock → (v1.ownBlock = v.ownBlock ∨ ∃ b, v1.ownBlock = some b ∧ W.heap.size ≤ b) → wpList P ops Q rest (a.put o.dst v1) w1) :
    wpList P ops Q (o :: rest) a W' := by
  subst hW
  subst hgx
  exact print_append_cells (w0 := W) base hgd s x t e z size bytes ho ht hinfo hz hs0 hb0 v n xs ys hs hx hys h1 HO ⟨rfl, rfl, rfl, Nat.le_refl _, fun _ _ => rfl⟩ hbase hl (fun v1 w1 h2 _ h3 h4 => h v1 w1 h2 h3 h4)
end
theorem info_gap : (Try.prog.info? 76).map (fun i => (i.zero, i.size, i.bytes)) = some (some (.agg #[.int .u16 0, .int .u16 0]), 2, 4) := by kernel_rfl
def SGapsP (l : List (Nat × Nat)) (w : World) (e : Ending) (w' : World) : Prop := ∃ A c, e = .returned (.slice A l.length c) ∧ GRow w' w.heap.size A c l ∧ Fr (fun _ => False) w w'
theorem sgaps_nil (n : Int) (w : World) : Calls Try.prog 49 #[.pointer none, .int .i64 n] w (SGapsP [] w) := by
  go_enter Try.func49, Try.ntmps49
  go_wp2_with fail
  go_ret
  exact ⟨none, 0, rfl, ⟨rfl, .inl ⟨rfl, rfl⟩⟩, (by repeat (first | (with_reducible exact Fr.refl _ _) | (with_reducible refine Fr.drewN ?_ _) | (with_reducible refine Fr.drew ?_) | (with_reducible refine Fr.alloc ?_ _)))⟩
theorem sgaps_few (p : Option Addr) (n : Int) (hn : n < 1) (w : World) : Calls Try.prog 49 #[.pointer p, .int .i64 n] w (SGapsP [] w) := by
  cases p with
  | none => exact sgaps_nil n w
  | some p =>
    go_enter Try.func49, Try.ntmps49
    go_wp2_with fail
    go_ret
    exact ⟨none, 0, rfl, ⟨rfl, .inl ⟨rfl, rfl⟩⟩, (by repeat (first | (with_reducible exact Fr.refl _ _) | (with_reducible refine Fr.drewN ?_ _) | (with_reducible refine Fr.drew ?_) | (with_reducible refine Fr.alloc ?_ _)))⟩
set_option maxRecDepth 100000 in
set_option maxHeartbeats 4000000 in
theorem sgaps_any {w : World} {g mb : Nat} {s : Sp.St} (h : SpAt w g mb s) (most : Int) (hm : 1 ≤ most) : Calls Try.prog 49 #[.pointer (some ⟨g, 0, none⟩), .int .i64 most] w (SGapsP (Sp.gaps s most) w) := by
  have hok := h.ok
  have hlen := hok.len
  obtain ⟨l, clk, hi⟩ := h
  have hbs := Blk.new w 71 #[.pointer (some ⟨g, 0, none⟩)]
  have hbf := Blk.newAt (w.alloc (.cells #[.pointer (some ⟨g, 0, none⟩)] 71)) 164 #[.func (.func 110) #[] #[.pointer (some ⟨w.heap.size, 0, none⟩)]] (w.heap.size + 1) (by simp)
  have hbm := Blk.newAt ((w.alloc (.cells #[.pointer (some ⟨g, 0, none⟩)] 71)).alloc (.cells #[.func (.func 110) #[] #[.pointer (some ⟨w.heap.size, 0, none⟩)]] 164)) 161 #[.map (some mb)] (w.heap.size + 1 + 1) (by simp)
  replace hbf := hbf.alloc (.cells #[.map (some mb)] 161)
  replace hbs := (hbs.alloc (.cells #[.func (.func 110) #[] #[.pointer (some ⟨w.heap.size, 0, none⟩)]] 164)).alloc (.cells #[.map (some mb)] 161)
  have hi3 := hi.fr (w' := ((w.alloc (.cells #[.pointer (some ⟨g, 0, none⟩)] 71)).alloc (.cells #[.func (.func 110) #[] #[.pointer (some ⟨w.heap.size, 0, none⟩)]] 164)).alloc (.cells #[.map (some mb)] 161)) (S := fun _ => False) (by repeat (first | (with_reducible exact Fr.refl _ _) | (with_reducible refine Fr.drewN ?_ _) | (with_reducible refine Fr.drew ?_) | (with_reducible refine Fr.alloc ?_ _))) id id
  have hsort := sorted_any hi3 (hbm.cell 0) (hbf.cell 0) (hbs.cell 0)
  have HS := Lib.hid hsort
  have c0 := hi.blk.cell
  have l0 := hi.blk.lt
  have hne : ¬ most < 1 := by omega
  have HI3 := Lib.hid hi3
  have HBS := Lib.hid hbs
  have HBF := Lib.hid hbf
  clear hsort hi3 hbs hbf hbm
  go_enter Try.func49, Try.ntmps49
  go_wp2_with (first
    | (go_at_call 114; refine (keys_any (some mb) _).mono ?_; rintro e w1 ⟨rfl, rfl⟩)
    | (go_at_call 113; refine HS.out.mono ?_; rintro e w1 ⟨v, rfl, hrow, hb⟩; obtain ⟨A, cA, rfl⟩ := own_slice hrow))
  have hs3 : (((w.alloc (.cells #[.pointer (some ⟨g, 0, none⟩)] 71)).alloc (.cells #[.func (.func 110) #[] #[.pointer (some ⟨w.heap.size, 0, none⟩)]] 164)).alloc (.cells #[.map (some mb)] 161)).heap.size = w.heap.size + 1 + 1 + 1 := by simp
  have hF0 : Fr (fun _ => False) w w1 := Fr.trans (S := fun _ => False) (by repeat (first | (with_reducible exact Fr.refl _ _) | (with_reducible refine Fr.drewN ?_ _) | (with_reducible refine Fr.drew ?_) | (with_reducible refine Fr.alloc ?_ _))) (Fr.of_below hb)
  have hbf1 := HBF.out.below hb (by rw [hs3]; omega)
  have hbs1 := HBS.out.below hb (by rw [hs3]; omega)
  have hg1 : w1.cell? ⟨g, 0, none⟩ = some (.int .u32 s.base) := (hF0.cell l0 id).trans (c0 0)
  rw [hs3] at hrow
  have HROW := Lib.hid hrow
  have HBF1 := Lib.hid hbf1
  have HBS1 := Lib.hid hbs1
  have HG1 := Lib.hid hg1
  have HB := Lib.hid hb
  have hsz : w.heap.size + 1 + 1 + 1 ≤ w1.heap.size := by rw [← hs3]; exact hb.size
  have hcells : ∀ i (hi : i < s.ds.length), ∃ gA, A = some ⟨gA, 0, none⟩ ∧ w1.cell? ⟨gA, i, none⟩ = some (.int .u32 (Sp.key s.base s.ds[i])) ∧ gA < w1.heap.size := by
    intro i hi
    rcases hrow.2 with ⟨_, hz⟩ | ⟨gA, cap, cur, hv, _, hbk, _⟩
    · omega
    · injection hv with hv _ _
      subst hv
      refine ⟨gA, rfl, ?_, (Array.getElem?_eq_some_iff.1 hbk).1⟩
      have := World.ownsRow.cells hrow (g := gA) rfl i (.int .u32 (Sp.key s.base s.ds[i])) (by simp [hi])
      rwa [add_at, Nat.zero_add] at this
  have HCELLS := Lib.hid hcells
  clear hrow hbf1 hbs1 hg1 hb hcells HBF HBS HI3 HS c0 hi hs3
  go_loopg [4, 27] s.ds.length (fun k v4 v27 wr => ∃ (i n : Nat) (B : Option Addr) (cB : Nat), v27 = .int .i64 i ∧ v4 = .slice B n cB ∧ n = (Sp.runs (s.ds.take i)).length ∧ i ≤ s.ds.length ∧ k = s.ds.length - i ∧ GRow wr w1.heap.size B cB (Sp.runs (s.ds.take i)) ∧ Fr (fun _ => False) w1 wr ∧ (Sp.runs (s.ds.take i)).length ≤ most.toNat)
  case atStart => exact ⟨0, 0, none, 0, rfl, rfl, rfl, Nat.zero_le _, rfl, ⟨rfl, .inl ⟨rfl, rfl⟩⟩, Fr.refl _ _, Nat.zero_le _⟩
  case round =>
    obtain ⟨i, n, B, cB, rfl, rfl, hn, hil, hk, hG, hF, hnm⟩ := hrel
    have HK := Lib.hid hk
    have HG := Lib.hid hG
    rw [← hn] at hnm
    have HN := Lib.hid hn
    have hn4 : n ≤ 4096 := by
      have h1 := Sp.runs_len (l := s.ds.take i) (hok.asc.sublist (List.take_sublist _ _)) (fun d hd => (hok.rng d (List.mem_of_mem_take hd)).1)
      rw [List.length_take] at h1
      omega
    clear hk hG hn
    by_cases hlt : i < s.ds.length
    · have hd1 : decide (i < s.ds.length) = true := decide_eq_true hlt
      have hd2 : decide ((i : Int) < s.ds.length) = true := decide_eq_true (by omega)
      obtain ⟨gA, rfl, cA1, lA⟩ := HCELLS.out i hlt
      have cA2 : wr.cell? ⟨gA, i, none⟩ = some (.int .u32 (Sp.key s.base s.ds[i])) := (hF.cell lA id).trans cA1
      have lA2 := Nat.lt_of_lt_of_le lA hF.size
      have hbf2 := HBF1.out.fr hF id
      have hbs2 := HBS1.out.fr hF id
      have hg2 : wr.cell? ⟨g, 0, none⟩ = some (.int .u32 s.base) := (hF.cell (Nat.lt_of_lt_of_le l0 hF0.size) id).trans HG1.out
      have hdr := hok.rng s.ds[i] (List.getElem_mem hlt)
      have hfar := far_any (hbs2.cell 0) hg2 (Sp.key s.base s.ds[i])
      rw [farV_key hdr.2] at hfar
      have HFAR := Lib.hid hfar
      have cf := hbf2.cell
      have lf := hbf2.lt
      have htk : s.ds.take (i + 1) = s.ds.take i ++ [s.ds[i]] := List.take_succ_eq_append_getElem hlt
      have hdp : s.ds.drop i = s.ds[i] :: s.ds.drop (i + 1) := List.drop_eq_getElem_cons hlt
      have HTK := Lib.hid htk
      have HDP := Lib.hid hdp
      generalize s.ds[i] = d at *
      clear hfar hbs2 hg2 cA1 lA htk hdp hbf2
      have hS : w1.heap.size ≤ wr.heap.size := hF.size
      have HSZ := Lib.hid hS
      have one : ∀ u ∈ [Value.int .u16 (d : Int), .int .u16 (d : Int)], u.oneCell' = true := by intro u hu; simp at hu; subst hu; rfl
      have HONE := Lib.hid one
      have haL : (n + 1) * 4 ≤ 140737488355328 := by omega
      have hHB : GRow wr w1.heap.size B cB (Sp.runs (s.ds.take i)) := HG.out
      have hHB2 : wr.ownsRow w1.heap.size 76 2 (.slice B n cB) n (gcs (Sp.runs (s.ds.take i))) := by rw [HN.out]; exact hHB
      have HG2 := Lib.hid hHB2
      clear hS one hHB hHB2
      rcases List.eq_nil_or_concat (Sp.runs (s.ds.take i)) with hR | ⟨ini, ⟨p, q⟩, hR⟩
      · obtain rfl : n = 0 := by rw [HN.out, hR]; rfl
        have HR := Lib.hid hR
        have hgo : ((0 : Int) == most) = false := beq_eq_false_iff_ne.2 (by omega)
        clear hR
        go_wp2_with (first
          | (go_at_call 110; refine HFAR.out.mono ?_; rintro e w' ⟨rfl, rfl⟩)
          | (at_builtin; refine app_row (W := wr) w1.heap.size (.tmp 58) (.tmp 62) 73 76 (.agg #[.int .u16 0, .int .u16 0]) 2 4 (.slice B 0 cB) 0 (gcs (Sp.runs (s.ds.take i))) [.int .u16 (d : Int), .int .u16 (d : Int)] ?hW ?hg ?ho Try.underlying73 info_gap rfl (by decide) (by decide) ?hs ?hx rfl rfl HONE.out HG2.out HSZ.out haL ?_; (case hW => exact rfl); (case hg => rfl); (case ho => rfl); (case hs => rfl); (case hx => rfl); intro v9 w9 hO9 hG9 hN9; obtain ⟨A9, c9, rfl⟩ := own_slice hO9; have HO9 := Lib.hid hO9; have HG9 := Lib.hid hG9; clear hO9 hG9 hN9))
        go_roundg (s.ds.length - (i + 1))
        case measure => rw [HK.out]; omega
        case rel =>
          have hrun : Sp.runs (s.ds.take (i + 1)) = [(d, d)] := by
            rw [HTK.out, Sp.runs_nil HR.out]
            rfl
          refine ⟨i + 1, 1, A9, c9, by go_num, rfl, by rw [hrun]; rfl, hlt, rfl, ?_, hF.grown HG9.out (fun k hk => .inr (HG2.out.lt k hk).1), by rw [hrun]; show 1 ≤ most.toNat; omega⟩
          rw [hrun]
          have := HO9.out
          rw [HR.out] at this
          exact this
      · rw [List.concat_eq_append] at hR
        obtain ⟨m, rfl⟩ : ∃ m, n = m + 1 := ⟨ini.length, by rw [HN.out, hR, List.length_append, List.length_singleton]⟩
        have hml : ini.length = m := by
          have := HN.out
          rw [hR, List.length_append, List.length_singleton] at this
          omega
        have HML := Lib.hid hml
        have HR := Lib.hid hR
        obtain ⟨gl, cur, rfl, hgl, hbl, _⟩ := GRow.ptr (l := Sp.runs (s.ds.take i)) HG.out (by rw [← HN.out]; omega)
        have hget : (Sp.runs (s.ds.take i))[m]? = some (p, q) := by rw [hR, ← hml]; simp
        obtain ⟨cg1, cg2⟩ := GRow.at_ (HG.out : GRow wr w1.heap.size (some ⟨gl, 0, none⟩) cB _) hget
        have hq : q ≤ 4096 := by
          have h0 := hok.asc.sublist (List.take_sublist i _)
          have h1 := Sp.runs_mem (l := s.ds.take i) h0 (fun d hd => (hok.rng d (List.mem_of_mem_take hd)).1) hget (k := q) ((Sp.runsOk_get _ 1 (Sp.runs_ok h0 (fun d hd => (hok.rng d (List.mem_of_mem_take hd)).1)).1 _ _ _ hget).2.1) (Nat.le_refl _)
          exact (hok.rng q (List.mem_of_mem_take h1)).2
        have lgl := hbl.lt
        have fgl := hbl.frozen (m * 2 + 1)
        have hk0 : ((m + 1 : Nat) : Int) - 1 = (m : Nat) := by omega
        have hk1 : (0 : Int) ≤ (m : Nat) := by omega
        have hk2 : ((m : Nat) : Int) < ((m + 1 : Nat) : Int) := by omega
        have hq1 : ((q : Int) + 1) % 65536 = ((q + 1 : Nat) : Int) := by omega
        have HQ1 := Lib.hid hq1
        have HGL := Lib.hid hgl
        clear hR hml hget hbl cg1 hgl
        by_cases hd : d = q + 1
        · have hb : ((q : Int) + 1 == (d : Int)) = true := beq_iff_eq.2 (by omega)
          have HD := Lib.hid hd
          clear hd
          go_wp2_with (go_at_call 110; refine HFAR.out.mono ?_; rintro e w' ⟨rfl, rfl⟩)
          go_roundg (s.ds.length - (i + 1))
          case measure => rw [HK.out]; omega
          case rel =>
            have hrun : Sp.runs (s.ds.take (i + 1)) = ini ++ [(p, d)] := by
              rw [HTK.out, Sp.runs_snoc HR.out, if_pos HD.out]
            have hG := (HG.out : GRow wr w1.heap.size (some ⟨gl, 0, none⟩) cB _)
            rw [HR.out] at hG
            have hG2 := hG.set d
            rw [HML.out] at hG2
            refine ⟨i + 1, m + 1, some ⟨gl, 0, none⟩, cB, by go_num, rfl, by rw [hrun, List.length_append, List.length_singleton, HML.out], hlt, rfl, ?_, hF.setAt (.inr HGL.out), by rw [hrun, List.length_append, List.length_singleton, HML.out]; exact hnm⟩
            rw [hrun]
            exact hG2
        · have hb : ((q : Int) + 1 == (d : Int)) = false := beq_eq_false_iff_ne.2 (by omega)
          have HD := Lib.hid hd
          clear hd
          by_cases hmo : ((m + 1 : Nat) : Int) = most
          · have hgo : (((m + 1 : Nat) : Int) == most) = true := beq_iff_eq.2 hmo
            have hgo2 : ((m : Int) + 1 == most) = true := beq_iff_eq.2 (by omega)
            have HMO := Lib.hid hmo
            clear hmo
            go_wp2_with (go_at_call 110; refine HFAR.out.mono ?_; rintro e w' ⟨rfl, rfl⟩)
            go_ret
            have hfix : Sp.gaps s most = Sp.runs (s.ds.take i) := by
              unfold Sp.gaps
              have h1 := Sp.runs_fix (l := s.ds.take i) (m := m + 1) HN.out.symm (s.ds.drop i) (fun x hx => by
                rw [HDP.out] at hx
                injection hx with hx
                subst hx
                rw [Sp.runs_snoc HR.out, if_neg HD.out]
                simp [HML.out])
              rw [List.take_append_drop] at h1
              rw [show most.toNat = m + 1 by have := HMO.out; omega]
              exact h1
            rw [hfix]
            exact ⟨some ⟨gl, 0, none⟩, cB, by rw [← HN.out]; rfl, GRow.weaken HG.out (by omega), hF0.trans hF⟩
          · have hgo : (((m + 1 : Nat) : Int) == most) = false := beq_eq_false_iff_ne.2 hmo
            have hgo2 : ((m : Int) + 1 == most) = false := beq_eq_false_iff_ne.2 (by omega)
            have hmo2 : m + 1 < most.toNat := by omega
            have HMO := Lib.hid hmo2
            clear hmo hmo2
            go_wp2_with (first
              | (go_at_call 110; refine HFAR.out.mono ?_; rintro e w' ⟨rfl, rfl⟩)
              | (at_builtin; refine app_row (W := wr) w1.heap.size (.tmp 58) (.tmp 62) 73 76 (.agg #[.int .u16 0, .int .u16 0]) 2 4 (.slice (some ⟨gl, 0, none⟩) (m + 1) cB) (m + 1) (gcs (Sp.runs (s.ds.take i))) [.int .u16 (d : Int), .int .u16 (d : Int)] ?hW ?hg ?ho Try.underlying73 info_gap rfl (by decide) (by decide) ?hs ?hx rfl rfl HONE.out HG2.out HSZ.out haL ?_; (case hW => exact rfl); (case hg => rfl); (case ho => rfl); (case hs => rfl); (case hx => rfl); intro v9 w9 hO9 hG9 hN9; obtain ⟨A9, c9, rfl⟩ := own_slice hO9; have HO9 := Lib.hid hO9; have HG9 := Lib.hid hG9; clear hO9 hG9 hN9))
            go_roundg (s.ds.length - (i + 1))
            case measure => rw [HK.out]; omega
            case rel =>
              have hrun : Sp.runs (s.ds.take (i + 1)) = Sp.runs (s.ds.take i) ++ [(d, d)] := by
                rw [HTK.out, Sp.runs_snoc HR.out, if_neg HD.out, HR.out]
                simp
              refine ⟨i + 1, m + 1 + 1, A9, c9, by go_num, rfl, by rw [hrun, List.length_append, List.length_singleton, ← HN.out], hlt, rfl, ?_, hF.grown HG9.out (fun k hk => .inr (HG2.out.lt k hk).1), by rw [hrun, List.length_append, List.length_singleton, ← HN.out]; exact HMO.out⟩
              rw [hrun]
              have := HO9.out
              rw [HN.out, ← gcs_snoc] at this
              unfold GRow
              rw [List.length_append, List.length_singleton]
              exact this
    · have hd1 : decide (i < s.ds.length) = false := decide_eq_false hlt
      have hd2 : decide ((i : Int) < s.ds.length) = false := decide_eq_false (by omega)
      have hfin : Sp.gaps s most = Sp.runs (s.ds.take i) := by
        unfold Sp.gaps
        rw [List.take_of_length_le (Nat.not_lt.1 hlt), List.take_of_length_le]
        rw [List.take_of_length_le (Nat.not_lt.1 hlt)] at HN
        have := HN.out
        omega
      have HFIN := Lib.hid hfin
      clear hfin
      go_wp2_with fail
      go_ret
      rw [HFIN.out]
      exact ⟨B, cB, by rw [← HN.out]; rfl, GRow.weaken HG.out (by omega), hF0.trans hF⟩
end Go.Proofs.Ytpkbckkminmdmaa
