/- The walk of SpansOrder. -/
import Derived.Test.YtpkbckkminmdmaaSpL5
import Derived.Test.YtpkbckkminmdmaaSpL7
import Derived.BigRegion
import Derived.Deep.RegionHeld3
namespace Go.Proofs.Ytpkbckkminmdmaa
open Go.RowKit Go.Proofs.YtpkbckkminmdmaaW.PrintWords
attribute [local go_sem] alloc_drewN setCell_drewN isMap_alloc isMap_drew isMap_drewN isMap_setCell cell_setMap frozen_setMap setMap_drew setMap_drewN size_setMap

theorem st_eta {s : Sp.St} {b : Int} {D : List Nat} (h : s.base = b) (hd : s.ds = D) : s = ⟨b, D⟩ := by
  cases s
  subst h hd
  rfl
theorem gaps_len {b : Int} {D : List Nat} (h : Sp.St.Ok ⟨b, D⟩) (n : Int) : (Sp.gaps ⟨b, D⟩ n).length ≤ 100000 := by
  have h1 := Sp.runs_len h.asc (fun d hd => (h.rng d hd).1)
  have h2 : D.length ≤ 4096 := h.len
  unfold Sp.gaps
  rw [List.length_take]
  dsimp only at *
  omega
/-- The last m numbers, backwards, each twice. -/
def backOf (l : List Int) (m : Nat) : List Int := (l.drop (l.length - m)).reverse.flatMap fun x => [x, x]
theorem backOf_succ {l : List Int} {m : Nat} (h : m < l.length) : backOf l (m + 1) = backOf l m ++ [l[l.length - 1 - m], l[l.length - 1 - m]] := by
  unfold backOf
  have : l.drop (l.length - (m + 1)) = l[l.length - 1 - m] :: l.drop (l.length - m) := by
    rw [List.drop_eq_getElem_cons (by omega)]
    congr 1
    · congr 1; omega
    · congr 1; omega
  rw [this, List.reverse_cons, List.flatMap_append]
  rfl
theorem backOf_len (l : List Int) (m : Nat) (h : m ≤ l.length) : (backOf l m).length = m + m := by
  unfold backOf
  rw [List.length_flatMap]
  have : ∀ (r : List Int), (r.map fun x => [x, x].length).sum = r.length + r.length := fun r => by
    induction r with
    | nil => rfl
    | cons a r ih => rw [List.map_cons, List.sum_cons, ih, List.length_cons]; show 2 + (r.length + r.length) = r.length + 1 + (r.length + 1); omega
  rw [this, List.length_reverse, List.length_drop]
  omega
theorem backOf_mem (l : List Int) (x : Int) : x ∈ backOf l l.length ↔ x ∈ l := by
  unfold backOf
  rw [Nat.sub_self, List.drop_zero, List.mem_flatMap]
  constructor
  · rintro ⟨y, hy, hx⟩
    simp at hx
    subst hx
    simpa using hy
  · intro hx
    exact ⟨x, by simpa using hx, by simp⟩
/-- A row of numbers in memory of its own. -/
def URow (w : World) (base : Nat) (A : Option Addr) (c : Nat) (l : List Int) : Prop := w.ownsRow base 29 1 (.slice A l.length c) l.length (l.map (Value.int .u32))
theorem URow.rd {w : World} {base c : Nat} {A : Option Addr} {l : List Int} (h : URow w base A c l) (hl : l.length ≤ 100000) : U32s w A l := by
  refine ⟨rfl, by omega, fun hp => ?_⟩
  rcases h.2 with ⟨_, hz⟩ | ⟨g, cap, cur, hv, _⟩
  · omega
  · injection hv with hv _ _
    subst hv
    refine ⟨⟨g, 0, none⟩, rfl, fun i p hi => ⟨[.int .u32 p], rfl, rfl, fun j u hu => ?_⟩⟩
    have hj : j = 0 := by
      rcases Nat.eq_zero_or_pos j with h' | h'
      · exact h'
      · rw [List.getElem?_eq_none (by simp; omega)] at hu
        cases hu
    subst hj
    injection hu with hu
    subst hu
    have := World.ownsRow.cells h (g := g) rfl i (.int .u32 p) (by rw [List.getElem?_map, hi]; rfl)
    show w.cell? (Addr.add ⟨g, 0, none⟩ (i * 1 + 0)) = _
    rw [Nat.mul_one, Nat.add_zero]
    exact this
section
variable {P : Program} {ops : Array Oper} {o : Oper} {a : Act} {K : Act → World → Prop} {Q : Exit → Act → World → Prop} {E : Prop}
theorem step_app (w : World) (hgd : o.guard = none) (s x : Operand) (t : TypeId)
    (ho : o.op = .call { callee := .builtin .append, args := #[s, x], argTypes := #[t, t] })
    (base : Nat) (e : TypeId) (z : Value) (size bytes : Nat) (ht : P.underlying t = some (.slice e)) (hinfo : (P.info? e).map (fun i => (i.zero, i.size, i.bytes)) = some (some z, size, bytes)) (hzs : z.cells.size = size) (hsz : 0 < size)
    (v : Value) (n : Nat) (xs : List Value) (hs : a.eval s = v) (hown : w.ownsRow base e size v n xs)
    (ad : Addr) (m c : Nat) (news : List Value) (hx : a.eval x = .slice (some ad) m c) (hl : news.length = m * size) (hnews : ∀ j u, news[j]? = some u → w.cell? (ad.add j) = some u) (h1 : ∀ u ∈ news, u.oneCell' = true)
    (h63 : n + m ≤ maxLen) (hbytes : (n + m) * bytes ≤ 140737488355328) (hbase : base ≤ w.heap.size)
    (h : ∀ v' w', w'.ownsRow base e size v' (n + m) (xs ++ news) → w.grownBy w' v.ownBlock → K (a.put o.dst v') w') :
    if Region.wanted o (yielded ops a.tmps) = true then Oper.wp P o a w K Q else E := by
  have hw : Region.wanted o (yielded ops a.tmps) = true := by simp [Region.wanted, hgd]
  rw [if_pos hw]
  obtain ⟨i, hi, hzz⟩ := Option.map_eq_some_iff.1 hinfo
  simp only [Prod.mk.injEq] at hzz
  obtain ⟨hz0, hz1, hz2⟩ := hzz
  obtain ⟨v', w', hr, h2, h3, _, _⟩ := run_append_own_at (P := P) w base t o.type e i z size bytes ht hi hz0 hz1 hz2 hzs hsz v n xs hown ad m c news hl hnews h1 h63 hbytes hbase
  unfold Oper.wp execOp
  simp only [ho, resolve, invoke, builtin, Sem.run_bind, Sem.run_pure, Result.andThen_ok, List.map_toArray, List.map_cons, List.map_nil, hs, hx, hr]
  exact h v' w' h2 h3
end
theorem urow_grown {w w1 w2 : World} {base c : Nat} {A : Option Addr} {l : List Int} {o : Obj} (h : URow w1 base A c l) (hg : (w1.alloc o).grownBy w2 (Value.slice A l.length c).ownBlock) (_hb : base ≤ w1.heap.size) (hw : w.heap.size ≤ base) (hF : Fr (fun _ => False) w w1) : Fr (fun _ => False) w w2 :=
  (hF.alloc o).grown hg (fun k hk => .inr (Nat.le_trans hw (h.lt k hk).1))
set_option maxRecDepth 100000 in
set_option maxHeartbeats 8000000 in
theorem spansOrder_walk (b o : Int) (A : Option Addr) (c : Nat) (l : List Int) (w : World) (hb : (Lit.int .u32 b).wf = true) (ho : (Lit.int .u32 o).wf = true) (hC : Kd.C (Kd.int .u32) w A l.length l) (_hc : l.length ≤ c) (hq : ∀ x ∈ l, (Lit.int .u32 x).wf = true) :
    Calls Try.prog 12 #[.int .u32 b, .int .u32 o, .slice A l.length c] w (SameV (.bool true) w) := by
  have hbr := in_u32 hb
  have hor := in_u32 ho
  have hr := fun x hx => in_u32 (hq x hx)
  clear hb hq ho
  by_cases hbig : 200 < l.length
  · have hd : decide ((200 : Int) < l.length) = true := decide_eq_true (by omega)
    go_enter Try.func12, Try.ntmps12
    go_wp2_with (go_at_call 47; refine (works4_any _).mono ?_; rintro e w2 ⟨rfl, hf2⟩)
    go_ret
    exact ⟨rfl, hf2⟩
  · have hd : decide ((200 : Int) < l.length) = false := decide_eq_false (by omega)
    go_enter Try.func12, Try.ntmps12
    go_wp2_with fail
    go_loopg [7, 8] l.length (fun k v7 v8 wr => ∃ (m : Nat) (B : Option Addr) (cB : Nat), m ≤ l.length ∧ v8 = .int .i64 ((l.length : Int) - 1 - m) ∧ v7 = .slice B (m + m) cB ∧ k = l.length - m ∧ URow wr w.heap.size B cB (backOf l m) ∧ Fr (fun _ => False) w wr)
    case atStart => exact ⟨0, none, 0, Nat.zero_le _, by simp, rfl, rfl, by unfold URow backOf; simp; exact ⟨rfl, .inl ⟨rfl, rfl⟩⟩, Fr.refl _ _⟩
    case round =>
      obtain ⟨m, B, cB, hm, rfl, rfl, hk, hU, hF⟩ := hrel
      have HK := Lib.hid hk
      have hU2 : wr.ownsRow w.heap.size 29 1 (.slice B (m + m) cB) (m + m) ((backOf l m).map (Value.int .u32)) := by
        have := hU
        unfold URow at this
        rwa [backOf_len l m hm] at this
      have HU2 := Lib.hid hU2
      clear hk hU2
      by_cases hlt : m < l.length
      · obtain ⟨i, hi⟩ : ∃ i, i = l.length - 1 - m := ⟨_, rfl⟩
        have hii : (l.length : Int) - 1 - (m : Int) = (i : Int) := by omega
        have hil : i < l.length := by omega
        obtain ⟨ad, rfl, hcl, hbl⟩ := u32_at (U32s.fr0 hC hF) i hil
        have hbs := backOf_succ hlt
        have hyy : l[l.length - 1 - m] = l[i] := by congr 1; exact hi.symm
        rw [hyy] at hbs
        generalize l[i] = y at *
        rw [hii]
        have HBS := Lib.hid hbs
        have HI := Lib.hid hii
        have HI2 := Lib.hid hi
        have hd1 : decide ((0 : Int) ≤ (i : Int)) = true := decide_eq_true (by omega)
        have h0 : (0 : Int) ≤ (i : Int) := by omega
        have h1 : (i : Int) < (l.length : Int) := by omega
        have HU := Lib.hid hU
        clear hbs hyy hii hi hU
        have hone : ∀ u ∈ [Value.int .u32 y, .int .u32 y], u.oneCell' = true := by intro u hu; simp at hu; subst hu; rfl
        have HONE := Lib.hid hone
        have hnw : ∀ j u, [Value.int .u32 y, .int .u32 y][j]? = some u → (wr.alloc (.cells #[.int .u32 y, .int .u32 y] 29)).drew.cell? ((⟨wr.heap.size, 0, none⟩ : Addr).add j) = some u := by
          simpa using World.news_of_block (cs := #[Value.int .u32 y, .int .u32 y]) (t := 29) (fr := (0, 0)) (heap_alloc_new wr (.cells #[.int .u32 y, .int .u32 y] 29))
        have HNW := Lib.hid hnw
        have hsz : w.heap.size ≤ (wr.alloc (.cells #[.int .u32 y, .int .u32 y] 29)).drew.heap.size := by have := hF.size; simp; omega
        have HSZ := Lib.hid hsz
        have hfw : ∀ w9, (wr.alloc (.cells #[.int .u32 y, .int .u32 y] 29)).grownBy w9 (Value.slice B (m + m) cB).ownBlock → w9.cell? (ad.add i) = wr.cell? (ad.add i) := fun w9 hg => by
          have hne : some ad.block ≠ (Value.slice B (m + m) cB).ownBlock := fun e => by
            have h1 := (HU2.out.lt ad.block e.symm).1
            obtain ⟨ad', e', hc', hb'⟩ := u32_at hC i hil
            injection e' with e'
            subst e'
            omega
          refine (World.cell?_of_block ((hg.block (ad.add i).block (by rw [block_of_add]; simp; omega) (by rw [block_of_add]; exact hne)))).trans ?_
          exact Fr.cell (S := fun _ => False) (a := ad.add i) ((Fr.refl _ _).alloc _) (by rw [block_of_add]; exact hbl) id
        have HFW := Lib.hid hfw
        clear hone hnw hsz hfw
        go_wp2_with fail
        refine wp_region_held_drew (S := (fun w' => w'.cell? (ad.add i) = some (.int .u32 y))) (by kernel_rfl) ?_ (fun hHeld => ?_)
        · first | trivial | ((try dsimp only); (first | go_keep | exact c9 | exact (Fr.cell (S := fun _ => False) (a := ad.add i) (by repeat (first | (with_reducible exact Fr.refl _ _) | (with_reducible refine Fr.drewN ?_ _) | (with_reducible refine Fr.drew ?_) | (with_reducible refine Fr.alloc ?_ _))) (by rw [block_of_add]; exact hbl) id).trans hcl))
        refine wpAnyH_take (i := 0) (v := ?_) rfl (by kernel_rfl) (by kernel_rfl) (by kernel_rfl) (fun _ _ _ h => h) (Or.inl ⟨by rfl, ?_⟩) (by assumption) ?_
        rotate_left
        · (intro w hSw; (try dsimp only at hSw); first | (go_simp; done) | (go_simp; with_reducible rfl))
        try simp only [Act.put, List.getElem_toArray, List.getElem_cons_zero, List.setIfInBounds_toArray, List.set_cons_zero, List.set_cons_succ]
        refine wpAnyH_take (i := 1) (v := ?_) rfl (by kernel_rfl) (by kernel_rfl) (by kernel_rfl) (fun _ _ _ h => h) (Or.inl ⟨by rfl, ?_⟩) (by assumption) ?_
        rotate_left
        · (intro w hSw; (try dsimp only at hSw); first | (go_simp; done) | (go_simp; with_reducible rfl))
        try simp only [Act.put, List.getElem_toArray, List.getElem_cons_succ, List.getElem_cons_zero, List.setIfInBounds_toArray, List.set_cons_zero, List.set_cons_succ]
        refine wpAnyH_take (i := 2) (v := ?_) rfl (by kernel_rfl) (by kernel_rfl) (by kernel_rfl) (fun _ _ _ h => h) (Or.inl ⟨by rfl, ?_⟩) (by assumption) ?_
        rotate_left
        · (intro w hSw; (try dsimp only at hSw); first | (go_simp; done) | (go_simp; with_reducible rfl))
        try simp only [Act.put, List.getElem_toArray, List.getElem_cons_succ, List.getElem_cons_zero, List.setIfInBounds_toArray, List.set_cons_zero, List.set_cons_succ]
        refine wpAnyH_take (i := 3) (v := ?_) rfl (by kernel_rfl) (by kernel_rfl) (by kernel_rfl) (fun _ _ _ h => h) (Or.inl ⟨by rfl, ?_⟩) (by assumption) ?_
        rotate_left
        · (intro w hSw; (try dsimp only at hSw); first | (go_simp; done) | (go_simp; with_reducible rfl))
        try simp only [Act.put, List.getElem_toArray, List.getElem_cons_succ, List.getElem_cons_zero, List.setIfInBounds_toArray, List.set_cons_zero, List.set_cons_succ]
        refine wpAnyH_take (i := 4) (v := ?_) rfl (by kernel_rfl) (by kernel_rfl) (by kernel_rfl) (fun _ _ _ h => h) (Or.inl ⟨by rfl, ?_⟩) (by assumption) ?_
        rotate_left
        · (intro w hSw; (try dsimp only at hSw); first | (go_simp; done) | (go_simp; with_reducible rfl))
        try simp only [Act.put, List.getElem_toArray, List.getElem_cons_succ, List.getElem_cons_zero, List.setIfInBounds_toArray, List.set_cons_zero, List.set_cons_succ]
        refine wpAnyH_take (i := 5) (v := ?_) rfl (by kernel_rfl) (by kernel_rfl) (by kernel_rfl) (fun _ _ _ h => h) (Or.inl ⟨by rfl, ?_⟩) (by assumption) ?_
        rotate_left
        · (intro w hSw; (try dsimp only at hSw); first | (go_simp; done) | (go_simp; with_reducible rfl))
        try simp only [Act.put, List.getElem_toArray, List.getElem_cons_succ, List.getElem_cons_zero, List.setIfInBounds_toArray, List.set_cons_zero, List.set_cons_succ]
        refine wpAnyH_take (i := 6) (v := ?_) rfl (by kernel_rfl) (by kernel_rfl) (by kernel_rfl) (fun _ _ _ h => h) (Or.inl ⟨by rfl, ?_⟩) (by assumption) ?_
        rotate_left
        · (intro w hSw; (try dsimp only at hSw); first | (go_simp; done) | (go_simp; with_reducible rfl))
        try simp only [Act.put, List.getElem_toArray, List.getElem_cons_succ, List.getElem_cons_zero, List.setIfInBounds_toArray, List.set_cons_zero, List.set_cons_succ]
        refine wpAnyH_take (i := 7) (v := ?_) rfl (by kernel_rfl) (by kernel_rfl) (by kernel_rfl) (fun _ _ _ h => h) (Or.inl ⟨by rfl, ?_⟩) (by assumption) ?_
        rotate_left
        · (intro w hSw; (try dsimp only at hSw); first | (go_simp; done) | (go_simp; with_reducible rfl))
        try simp only [Act.put, List.getElem_toArray, List.getElem_cons_succ, List.getElem_cons_zero, List.setIfInBounds_toArray, List.set_cons_zero, List.set_cons_succ]
        refine wpAnyH_take (i := 8) (v := ?_) rfl (by kernel_rfl) (by kernel_rfl) (by kernel_rfl) (fun _ _ _ h => h) (Or.inl ⟨by rfl, ?_⟩) (by assumption) ?_
        rotate_left
        · (intro w hSw; (try dsimp only at hSw); first | (go_simp; done) | (go_simp; with_reducible rfl))
        try simp only [Act.put, List.getElem_toArray, List.getElem_cons_succ, List.getElem_cons_zero, List.setIfInBounds_toArray, List.set_cons_zero, List.set_cons_succ]
        refine wpAnyH_ready (rs := [9]) (by kernel_rfl) (by simp) ?_
        refine AllReadyH.cons rfl (fun K hK => ?_) AllReadyH.nil
        go_simp
        try go_wp2_with fail
        refine hK.out _ _ ?_ (fun hHeld => ?_)
        · first | trivial | ((try dsimp only); (first | go_keep | exact c9 | exact (Fr.cell (S := fun _ => False) (a := ad.add i) (by repeat (first | (with_reducible exact Fr.refl _ _) | (with_reducible refine Fr.drewN ?_ _) | (with_reducible refine Fr.drew ?_) | (with_reducible refine Fr.alloc ?_ _))) (by rw [block_of_add]; exact hbl) id).trans hcl))
        clear hK K
        try simp only [Act.put, List.getElem_toArray, List.getElem_cons_succ, List.getElem_cons_zero, List.setIfInBounds_toArray, List.set_cons_zero, List.set_cons_succ]
        refine wpAnyH_ready (rs := [10]) (by kernel_rfl) (by simp) ?_
        refine AllReadyH.cons rfl (fun K hK => ?_) AllReadyH.nil
        (refine step_app _ rfl (.tmp 22) (.tmp 31) 70 rfl w.heap.size 29 (.int .u32 0) 1 4 Try.underlying70 info_u32 rfl (by decide) (.slice B (m + m) cB) (m + m) ((backOf l m).map (Value.int .u32)) rfl (HU2.out.alloc _) ⟨wr.heap.size, 0, none⟩ 2 2 [.int .u32 y, .int .u32 y] rfl rfl HNW.out HONE.out (by unfold maxLen; omega) (by omega) HSZ.out ?_; intro v9 w9 hO9 hG9; obtain ⟨A9, cA9, rfl⟩ := own_slice hO9; have hF9 : Fr (fun _ => False) w w9 := (hF.alloc (.cells #[.int .u32 y, .int .u32 y] 29)).grown (grown_drew hG9) (fun k hk => .inr (HU2.out.lt k hk).1); have c9 : w9.cell? (ad.add i) = some (.int .u32 y) := (HFW.out w9 (grown_drew hG9)).trans hcl; have HO9 := Lib.hid hO9; have HF9 := Lib.hid hF9; clear hO9 hG9 hF9)
        refine hK.out _ _ ?_ (fun hHeld => ?_)
        · first | trivial | ((try dsimp only); (first | go_keep | exact c9 | exact (Fr.cell (S := fun _ => False) (a := ad.add i) (by repeat (first | (with_reducible exact Fr.refl _ _) | (with_reducible refine Fr.drewN ?_ _) | (with_reducible refine Fr.drew ?_) | (with_reducible refine Fr.alloc ?_ _))) (by rw [block_of_add]; exact hbl) id).trans hcl))
        clear hK K
        try simp only [Act.put, List.getElem_toArray, List.getElem_cons_succ, List.getElem_cons_zero, List.setIfInBounds_toArray, List.set_cons_zero, List.set_cons_succ]
        refine wpAnyH_take (i := 11) (v := ?_) rfl (by kernel_rfl) (by kernel_rfl) (by kernel_rfl) (fun _ _ _ h => h) (Or.inl ⟨by rfl, ?_⟩) (by assumption) ?_
        rotate_left
        · (intro w hSw; (try dsimp only at hSw); first | (go_simp; done) | (go_simp; with_reducible rfl))
        try simp only [Act.put, List.getElem_toArray, List.getElem_cons_succ, List.getElem_cons_zero, List.setIfInBounds_toArray, List.set_cons_zero, List.set_cons_succ]
        refine wpAnyH_done (by kernel_rfl) ?_ _
        clear c9
        go_wp2_with fail
        go_roundg (l.length - (m + 1))
        case measure => rw [HK.out]; omega
        case rel =>
          have hl2 : (backOf l (m + 1)).length = m + 1 + (m + 1) := backOf_len l (m + 1) (by omega)
          refine ⟨m + 1, A9, cA9, by omega, by congr 1; have := HI.out; omega, by congr 1; omega, rfl, ?_, HF9.out⟩
          unfold URow
          rw [hl2, HBS.out, List.map_append]
          have := HO9.out
          rw [show m + m + 2 = m + 1 + (m + 1) by omega] at this
          exact this
      · obtain rfl : m = l.length := by omega
        have HL2 := Lib.hid (backOf_len l l.length (Nat.le_refl _))
        have hr2 : ∀ x ∈ backOf l l.length, 0 ≤ x ∧ x < 4294967296 := fun x hx => hr x ((backOf_mem l x).1 hx)
        have hd2 : (Sp.fill b l).ds = (Sp.fill o (backOf l l.length)).ds := Sp.fill_ds hbr hor hr (backOf_mem l)
        have hfil1 := filled_any b A c l wr hbr (U32s.fr0 hC hF) (by omega) hr
        have hfil2 := fun w9 (hu : U32s w9 B (backOf l l.length)) => filled_any o B cB (backOf l l.length) w9 hor hu (by rw [HL2.out]; omega) hr2
        have hok := Sp.fill_ok hbr hr
        have e1 : Sp.fill b l = ⟨b, (Sp.fill b l).ds⟩ := st_eta (Sp.fill_base hbr hr) rfl
        have e2 : Sp.fill o (backOf l l.length) = ⟨o, (Sp.fill b l).ds⟩ := st_eta (Sp.fill_base hor hr2) hd2.symm
        rw [e1] at hfil1 hok
        rw [e2, HL2.out] at hfil2
        have hu1 := hU.rd (by rw [HL2.out]; omega)
        generalize (Sp.fill b l).ds = D at *
        have HFIL1 := Lib.hid hfil1
        have HFIL2 := Lib.hid hfil2
        have HU1 := Lib.hid hu1
        have HF := Lib.hid hF
        have HRL := Lib.hid (gaps_len hok 4096)
        have HRL2 := Lib.hid (gaps_len (show Sp.St.Ok (Sp.settle ⟨b, D⟩).1 from hok.settle) 4096)
        have hl1 : (Sp.last ⟨b, D⟩ - b) % 4294967296 = ((D.getLastD 0 : Nat) : Int) % 4294967296 := by
          unfold Sp.last Sp.key
          dsimp only
          omega
        have hl2 : (Sp.last ⟨o, D⟩ - o) % 4294967296 = ((D.getLastD 0 : Nat) : Int) % 4294967296 := by
          unfold Sp.last Sp.key
          dsimp only
          omega
        generalize ((D.getLastD 0 : Nat) : Int) % 4294967296 = y at *
        obtain ⟨L1, hL1⟩ : ∃ L1, L1 = Sp.last ⟨b, D⟩ := ⟨_, rfl⟩
        obtain ⟨L2, hL2⟩ : ∃ L2, L2 = Sp.last ⟨o, D⟩ := ⟨_, rfl⟩
        rw [← hL1] at hl1
        rw [← hL2] at hl2
        have HL1 := Lib.hid hL1
        have HL2' := Lib.hid hL2
        clear hfil1 hfil2 hu1 hF hU HK HU2 e1 e2 hd2 hr2 hok hL1 hL2 hr hC
        obtain ⟨W0, rfl⟩ : ∃ W0, W0 = wr := ⟨wr, rfl⟩
        go_wp2_with fail
        go_at_call 48
        refine HFIL1.out.mono ?_
        rintro e w1 ⟨g, mb, rfl, hS1, hf1, hg, hmb⟩
        have h2 := HFIL2.out w1 (HU1.out.fr0 hf1)
        have H2 := Lib.hid h2
        have HLT := Lib.hid hS1.lts
        clear h2
        go_wp2_with fail
        go_at_call 48
        refine H2.out.mono ?_
        rintro e w2 ⟨g2, mb2, rfl, hS2, hf2, hg2, hmb2⟩
        have HA := Lib.hid (hS1.fr0 hf2)
        have HB := Lib.hid hS2
        have hF2 : Fr (fun _ => False) w w2 := (HF.out.trans hf1).trans hf2
        have HF2 := Lib.hid hF2
        have hdis : g ≠ g2 ∧ g ≠ mb2 ∧ mb ≠ g2 ∧ mb ≠ mb2 := by have := HLT.out; omega
        have hnew : w.heap.size ≤ g ∧ w.heap.size ≤ mb ∧ w.heap.size ≤ g2 ∧ w.heap.size ≤ mb2 := by have := HF.out.size; have := hf1.size; omega
        have HDIS := Lib.hid hdis
        have HNEW := Lib.hid hnew
        clear hS1 hS2 hf1 hf2 hF2 hg hmb hg2 hmb2 hdis hnew
        go_wp2_with fail
        go_at_call 49
        refine (sgaps_all HA.out 4096).mono ?_
        rintro e w3 ⟨A1, c1, rfl, hG1, hf3⟩
        go_wp2_with fail
        go_at_call 49
        refine (sgaps_all (HB.out.fr0 hf3) 4096).mono ?_
        rintro e w4 ⟨A2, c2, rfl, hG2, hf4⟩
        have hsm := same4_any A1 A2 c1 c2 _ _ w4 (hG1.rd.fr0 hf4) hG2.rd HRL.out
        rw [show Sp.gaps ⟨b, D⟩ 4096 = Sp.gaps ⟨o, D⟩ 4096 from rfl, decide_eq_true rfl] at hsm
        rw [show Sp.gaps ⟨b, D⟩ 4096 = Sp.gaps ⟨o, D⟩ 4096 from rfl]
        have HSM := Lib.hid hsm
        have HF4 := Lib.hid (hf3.trans hf4)
        clear hsm hG1 hG2 hf3 hf4
        go_wp2_with fail
        go_at_call 65
        refine HSM.out.mono ?_
        rintro e w5 ⟨rfl, hf5⟩
        have HA5 := Lib.hid (HA.out.fr0 (HF4.out.trans hf5))
        have HB5 := Lib.hid (HB.out.fr0 (HF4.out.trans hf5))
        have HF5 := Lib.hid ((HF2.out.trans HF4.out).trans hf5)
        clear hf5
        go_wp2_with fail
        go_at_call 53
        refine (scount_any HA5.out).mono ?_
        rintro e w' ⟨rfl, rfl⟩
        go_wp2_with fail
        go_at_call 53
        refine (scount_any HB5.out).mono ?_
        rintro e w' ⟨rfl, rfl⟩
        have hcc : ((D.length : Int) == (D.length : Int)) = true := beq_self_eq_true _
        go_wp2_with fail
        go_at_call 52
        refine (slast_any HA5.out).mono ?_
        rintro e w6 ⟨rfl, hf6⟩
        rw [← HL1.out]
        go_wp2_with fail
        go_at_call 52
        refine (slast_any (HB5.out.fr0 hf6)).mono ?_
        rintro e w7 ⟨rfl, hf7⟩
        rw [← HL2'.out]
        have HA7 := Lib.hid ((HA5.out.fr0 hf6).fr0 hf7)
        have HB7 := Lib.hid ((HB5.out.fr0 hf6).fr0 hf7)
        have HF7 := Lib.hid ((HF5.out.trans hf6).trans hf7)
        have hyy : (y == y) = true := beq_self_eq_true _
        clear hf6 hf7 hcc
        go_wp2_with fail
        go_at_call 54
        refine (ssettle_any HA7.out).mono ?_
        rintro e w8 ⟨rfl, hA8, hf8⟩
        have HB8 := Lib.hid (HB7.out.fr hf8 (fun h => by have := HDIS.out; rcases h with h | h <;> omega) (fun h => by have := HDIS.out; rcases h with h | h <;> omega))
        have HA8 := Lib.hid hA8
        have HF8 := Lib.hid (foot_new HF7.out hf8 HNEW.out.1 HNEW.out.2.1)
        clear hf8 hA8 hyy hl1 hl2
        go_wp2_with fail
        go_at_call 54
        refine (ssettle_any HB8.out).mono ?_
        rintro e w9 ⟨rfl, hB9, hf9⟩
        have HA9 := Lib.hid (HA8.out.fr hf9 (fun h => by have := HDIS.out; rcases h with h | h <;> omega) (fun h => by have := HDIS.out; rcases h with h | h <;> omega))
        have HB9 := Lib.hid hB9
        have HF9 := Lib.hid (foot_new HF8.out hf9 HNEW.out.2.2.1 HNEW.out.2.2.2)
        have hnn : (((Sp.settle ⟨b, D⟩).2 : Int) == ((Sp.settle ⟨o, D⟩).2 : Int)) = true := beq_self_eq_true _
        clear hf9 hB9
        go_wp2_with fail
        go_at_call 49
        refine (sgaps_all HA9.out 4096).mono ?_
        rintro e w10 ⟨A3, c3, rfl, hG3, hf10⟩
        go_wp2_with fail
        go_at_call 49
        refine (sgaps_all (HB9.out.fr0 hf10) 4096).mono ?_
        rintro e w11 ⟨A4, c4, rfl, hG4, hf11⟩
        have hsm := same4_any A3 A4 c3 c4 _ _ w11 (hG3.rd.fr0 hf11) hG4.rd HRL2.out
        rw [show Sp.gaps (Sp.settle ⟨b, D⟩).1 4096 = Sp.gaps (Sp.settle ⟨o, D⟩).1 4096 from rfl, decide_eq_true rfl] at hsm
        rw [show Sp.gaps (Sp.settle ⟨b, D⟩).1 4096 = Sp.gaps (Sp.settle ⟨o, D⟩).1 4096 from rfl]
        have HSM := Lib.hid hsm
        have HF11 := Lib.hid ((HF9.out.trans hf10).trans hf11)
        clear hsm hG3 hG4 hf10 hf11 hnn
        go_wp2_with fail
        go_at_call 65
        refine HSM.out.mono ?_
        rintro e w12 ⟨rfl, hf12⟩
        go_wp2_with fail
        go_at_call 47
        refine (works4_any _).mono ?_
        rintro e w13 ⟨rfl, hf13⟩
        go_wp2_with fail
        go_ret
        exact ⟨rfl, (HF11.out.trans hf12).trans hf13⟩
end Go.Proofs.Ytpkbckkminmdmaa
