/- How a *reasm.Reasm lies in memory; laws for append at a step of a region. -/
import Derived.Test.YtpkbckkminmdmaaRsW1
import Derived.Test.YtpkbckkminmdmaaWWords
import Derived.Deep.AppendLies
namespace Go.Proofs.Ytpkbckkminmdmaa
open Go.RowKit Go.Proofs.YtpkbckkminmdmaaW.PrintWords

structure Me where
  m : Rs.Ms
  blk : Nat
  cap : Nat
def mcells (m : Me) : List Value := [.int .u16 m.m.stream, .bool m.m.ord, .slice (some ⟨m.blk, 0, none⟩) m.m.bytes.length m.cap]
/-- A row of bytes, whole in one block. -/
def Byt (w : World) (blk cap : Nat) (bs : List Int) : Prop := w.ownsRow 0 5 1 (.slice (some ⟨blk, 0, none⟩) bs.length cap) bs.length (nums .u8 bs)
theorem nums_len (k : IntKind) (bs : List Int) : (nums k bs).length = bs.length := by simp [nums]
theorem Byt.blk {w : World} {blk cap : Nat} {bs : List Int} (h : Byt w blk cap bs) : ∃ cur, Blk w blk 5 cur ∧ bs.length ≤ cap ∧ cur.size = cap ∧ cur.toList.take bs.length = nums .u8 bs ∧ cap ≤ maxLen := by
  rcases h.2 with ⟨hv, _⟩ | ⟨g, cap', cur, hv, _, hb, h1, h2, h3, h4⟩
  · cases hv
  · injection hv with ha _ hc
    injection ha with ha
    injection ha with ha
    subst ha hc
    exact ⟨cur, hb, h1, by simpa using h3, by simpa using h4, h2⟩
theorem Byt.mk {w : World} {blk cap : Nat} {bs : List Int} {cur : Array Value} (h : Blk w blk 5 cur) (h1 : bs.length ≤ cap) (h2 : cur.size = cap) (h3 : cur.toList.take bs.length = nums .u8 bs) (h4 : cap ≤ maxLen) : Byt w blk cap bs :=
  ⟨by simp [nums], .inr ⟨blk, cap, cur, rfl, Nat.zero_le _, h, h1, h4, by simpa using h2, by simpa using h3⟩⟩
theorem Byt.lt {w : World} {blk cap : Nat} {bs : List Int} (h : Byt w blk cap bs) : blk < w.heap.size := by
  obtain ⟨cur, hb, _⟩ := h.blk
  exact hb.lt
theorem Byt.keep {w w' : World} {blk cap : Nat} {bs : List Int} (h : Byt w blk cap bs) (hk : w'.heap[blk]? = w.heap[blk]?) : Byt w' blk cap bs := by
  obtain ⟨cur, hb, h1, h2, h3, h4⟩ := h.blk
  exact Byt.mk (cur := cur) (hk.trans hb) h1 h2 h3 h4
theorem Byt.cells {w : World} {blk cap : Nat} {bs : List Int} (h : Byt w blk cap bs) : ∀ j u, (nums .u8 bs)[j]? = some u → w.cell? ((⟨blk, 0, none⟩ : Addr).add j) = some u := World.ownsRow.cells h rfl

/-- What stands in a *Reasm, and where. -/
structure Gs where
  mb : Nat
  nb : Nat
  L : List Pe
  clk : Nat
  turns : Int
  next : List Int
  rowA : Option Addr
  rowc : Nat
  row : List Me
def Gs.abs (s : Gs) : Rs.St := { L := s.L.map (·.p), next := s.next, row := s.row.map (·.m) }
def gcells (s : Gs) (h : Int) : Array Value := #[.map (some s.mb), .int .i64 s.turns, .slice (some ⟨s.nb, 0, none⟩) s.next.length s.next.length, .slice s.rowA s.row.length s.rowc, .int .i64 h]
structure Gs.Ok (s : Gs) : Prop where
  dist : ((s.L.map (·.blk)) ++ (s.row.map (·.blk))).Nodup
  keys : (s.L.map (·.p.tsn)).Nodup
  born : (s.L.map (·.born)).Pairwise (· < ·)
  bornlt : ∀ e ∈ s.L, e.born < s.clk
  turn : (s.L.map (·.turn)).Pairwise (· < ·)
  turnlt : ∀ e ∈ s.L, 0 ≤ e.turn ∧ e.turn < s.turns
  tsn : ∀ e ∈ s.L, 0 ≤ e.p.tsn ∧ e.p.tsn < 4294967296
  strm : ∀ e ∈ s.L, 0 ≤ e.p.stream ∧ e.p.stream < 65536 ∧ 0 ≤ e.p.ssn ∧ e.p.ssn < 65536
  nxr : ∀ x ∈ s.next, 0 ≤ x ∧ x < 65536
  nxl : s.next.length ≤ 16
  ne : ∀ e ∈ s.L, 0 < e.p.bytes.length
  nem : ∀ m ∈ s.row, 0 < m.m.bytes.length
  cnt : ((s.L.length + s.row.length : Nat) : Int) ≤ s.turns
/-- All but the held count: what the parts are. -/
structure RsIn (w : World) (s : Gs) : Prop where
  map : IsMap w s.mb (ents (s.L.map Pe.en)) s.clk
  nxt : Blk w s.nb 30 (nums .u16 s.next).toArray
  row : QRow w 0 40 3 (.slice s.rowA s.row.length s.rowc) s.row.length (s.row.flatMap mcells)
  pcs : ∀ e ∈ s.L, Byt w e.blk e.cap e.p.bytes
  msg : ∀ m ∈ s.row, Byt w m.blk m.cap m.m.bytes
structure RsAt (w : World) (g : Nat) (s : Gs) (h : Int) : Prop where
  blk : Blk w g 142 (gcells s h)
  inn : RsIn w s
  ok : s.Ok
/-- The blocks of a *Reasm at g. -/
def Foot (g : Nat) (s : Gs) (k : Nat) : Prop := k = g ∨ k = s.mb ∨ k = s.nb ∨ (Value.slice s.rowA s.row.length s.rowc).ownBlock = some k ∨ (∃ e ∈ s.L, e.blk = k) ∨ ∃ m ∈ s.row, m.blk = k
theorem RsAt.foot_lt {w : World} {g : Nat} {s : Gs} {h : Int} (hr : RsAt w g s h) {k : Nat} (hk : Foot g s k) : k < w.heap.size := by
  rcases hk with rfl | rfl | rfl | hk | ⟨e, he, rfl⟩ | ⟨m, hm, rfl⟩
  · exact hr.blk.lt
  · exact hr.inn.map.lt
  · exact hr.inn.nxt.lt
  · exact q_lt hr.inn.row k hk
  · exact (hr.inn.pcs e he).lt
  · exact (hr.inn.msg m hm).lt
theorem RsAt.keep {w w' : World} {g : Nat} {s : Gs} {h : Int} (hr : RsAt w g s h) (hk : ∀ k, Foot g s k → k < w.heap.size → w'.heap[k]? = w.heap[k]?) : RsAt w' g s h where
  blk := (hk _ (.inl rfl) hr.blk.lt).trans hr.blk
  inn := {
    map := (hk _ (.inr (.inl rfl)) hr.inn.map.lt).trans hr.inn.map
    nxt := (hk _ (.inr (.inr (.inl rfl))) hr.inn.nxt.lt).trans hr.inn.nxt
    row := q_move hr.inn.row (fun k hh => hk k (.inr (.inr (.inr (.inl hh)))) (q_lt hr.inn.row k hh))
    pcs := fun e he => (hr.inn.pcs e he).keep (hk _ (.inr (.inr (.inr (.inr (.inl ⟨e, he, rfl⟩))))) (hr.inn.pcs e he).lt)
    msg := fun m hm => (hr.inn.msg m hm).keep (hk _ (.inr (.inr (.inr (.inr (.inr ⟨m, hm, rfl⟩))))) (hr.inn.msg m hm).lt) }
  ok := hr.ok
theorem RsAt.fr {w w' : World} {g : Nat} {s : Gs} {h : Int} {S : Nat → Prop} (hr : RsAt w g s h) (hf : Fr S w w') (hd : ∀ k, Foot g s k → ¬ S k) : RsAt w' g s h :=
  hr.keep fun k hk hlt => hf.block k hlt (hd k hk)
theorem RsAt.fr0 {w w' : World} {g : Nat} {s : Gs} {h : Int} (hr : RsAt w g s h) (hf : Fr (fun _ => False) w w') : RsAt w' g s h := hr.fr hf fun _ _ h => h

/-- A step on a *Reasm: where it lies behind. -/
structure Upd (g : Nat) (s s' : Gs) (h' : Int) (w w' : World) : Prop where
  at_ : RsAt w' g s' h'
  fr : Fr (Foot g s) w w'
  foot : ∀ k, Foot g s' k → Foot g s k ∨ w.heap.size ≤ k
theorem Upd.refl {g : Nat} {s : Gs} {h : Int} {w : World} (hr : RsAt w g s h) : Upd g s s h w w := ⟨hr, Fr.refl _ _, fun _ hk => .inl hk⟩
theorem Upd.trans {g : Nat} {s s1 s2 : Gs} {h1 h2 : Int} {w w1 w2 : World} (a : Upd g s s1 h1 w w1) (b : Upd g s1 s2 h2 w1 w2) : Upd g s s2 h2 w w2 :=
  ⟨b.at_, a.fr.then b.fr a.foot, fun k hk => by
    rcases b.foot k hk with h | h
    · exact a.foot k h
    · exact .inr (Nat.le_trans a.fr.size h)⟩
theorem Upd.fr0 {g : Nat} {s s' : Gs} {h' : Int} {w w1 w2 : World} (a : Upd g s s' h' w w1) (hf : Fr (fun _ => False) w1 w2) : Upd g s s' h' w w2 :=
  ⟨a.at_.fr0 hf, a.fr.trans (hf.mono fun _ _ h => h.elim), a.foot⟩
theorem Upd.pre {g : Nat} {s s' : Gs} {h' : Int} {w w1 w2 : World} (hf : Fr (fun _ => False) w w1) (a : Upd g s s' h' w1 w2) : Upd g s s' h' w w2 :=
  ⟨a.at_, (hf.mono fun _ _ h => h.elim).trans a.fr, fun k hk => by
    rcases a.foot k hk with h | h
    · exact .inl h
    · exact .inr (Nat.le_trans hf.size h)⟩

theorem q_alloc {w : World} {base n size : Nat} {e : TypeId} {v : Value} {xs : List Value} (h : QRow w base e size v n xs) (o : Obj) : QRow (w.alloc o) base e size v n xs := q_move h fun k hk => Below.heap_alloc w o k (q_lt h k hk)
theorem news_blk {w : World} {g : Nat} {t : TypeId} {cs : Array Value} (h : Blk w g t cs) : ∀ j u, cs.toList[j]? = some u → w.cell? ((⟨g, 0, none⟩ : Addr).add j) = some u := by
  intro j u hu
  rw [add_at, Nat.zero_add, h.cell, ← Array.getElem?_toList]
  exact hu

/-! ### append at a step of a region -/
section
variable {P : Program} {ops : Array Oper} {o : Oper} {a : Act} {K : Act → World → Prop} {Q : Exit → Act → World → Prop} {E : Prop}
theorem wp_append_q (w : World) (s x : Operand) (t : TypeId)
    (ho : o.op = .call { callee := .builtin .append, args := #[s, x], argTypes := #[t, t] })
    (base : Nat) (e : TypeId) (i : TypeInfo) (z : Value) (size bytes : Nat) (ht : P.underlying t = some (.slice e)) (hi : P.info? e = some i) (hz : i.zero = some z)
    (hsize : i.size = size) (hby : i.bytes = bytes) (hzs : z.cells.size = size) (hsz : 0 < size)
    (v : Value) (n : Nat) (xs : List Value) (hs : a.eval s = v) (hown : QRow w base e size v n xs)
    (ad : Addr) (m c : Nat) (news : List Value) (hx : a.eval x = .slice (some ad) m c) (hl : news.length = m * size) (hnews : ∀ j u, news[j]? = some u → w.cell? (ad.add j) = some u) (h1 : ∀ u ∈ news, u.oneCell' = true) (hm : 0 < m)
    (h63 : n + m ≤ maxLen) (hbytes : (n + m) * bytes ≤ 140737488355328) (hbase : base ≤ w.heap.size)
    (h : ∀ A' c' w', QRow w' base e size (.slice A' (n + m) c') (n + m) (xs ++ news) → w.grownBy w' v.ownBlock → ((Value.slice A' (n + m) c').ownBlock = v.ownBlock ∨ ∃ b, (Value.slice A' (n + m) c').ownBlock = some b ∧ w.heap.size ≤ b) → K (a.put o.dst (.slice A' (n + m) c')) w') : o.wp P a w K Q := by
  obtain ⟨v', w', hrun, h2, h3, h4⟩ := q_append (P := P) w base t o.type e i z size bytes ht hi hz hsize hby hzs hsz v n xs hown ad m c news hl hnews h1 hm h63 hbytes hbase
  obtain ⟨A', c', rfl, _⟩ := q_slice h2
  unfold Oper.wp execOp
  simp only [ho, resolve, invoke, builtin, Sem.run_bind, Sem.run_pure, Result.andThen_ok, List.map_toArray, List.map_cons, List.map_nil, hs, hx, hrun]
  exact h A' c' w' h2 h3 h4
theorem step_append_q (w : World) (hgd : o.guard = none) (s x : Operand) (t : TypeId)
    (ho : o.op = .call { callee := .builtin .append, args := #[s, x], argTypes := #[t, t] })
    (base : Nat) (e : TypeId) (i : TypeInfo) (z : Value) (size bytes : Nat) (ht : P.underlying t = some (.slice e)) (hi : P.info? e = some i) (hz : i.zero = some z)
    (hsize : i.size = size) (hby : i.bytes = bytes) (hzs : z.cells.size = size) (hsz : 0 < size)
    (v : Value) (n : Nat) (xs : List Value) (hs : a.eval s = v) (hown : QRow w base e size v n xs)
    (ad : Addr) (m c : Nat) (news : List Value) (hx : a.eval x = .slice (some ad) m c) (hl : news.length = m * size) (hnews : ∀ j u, news[j]? = some u → w.cell? (ad.add j) = some u) (h1 : ∀ u ∈ news, u.oneCell' = true) (hm : 0 < m)
    (h63 : n + m ≤ maxLen) (hbytes : (n + m) * bytes ≤ 140737488355328) (hbase : base ≤ w.heap.size)
    (h : ∀ A' c' w', QRow w' base e size (.slice A' (n + m) c') (n + m) (xs ++ news) → w.grownBy w' v.ownBlock → ((Value.slice A' (n + m) c').ownBlock = v.ownBlock ∨ ∃ b, (Value.slice A' (n + m) c').ownBlock = some b ∧ w.heap.size ≤ b) → K (a.put o.dst (.slice A' (n + m) c')) w') :
    if Region.wanted o (yielded ops a.tmps) = true then Oper.wp P o a w K Q else E := by
  have hw : Region.wanted o (yielded ops a.tmps) = true := by simp [Region.wanted, hgd]
  rw [if_pos hw]
  exact wp_append_q w s x t ho base e i z size bytes ht hi hz hsize hby hzs hsz v n xs hs hown ad m c news hx hl hnews h1 hm h63 hbytes hbase h
end
theorem info_u8 : (Try.prog.info? 5).map (fun i => (i.zero, i.size, i.bytes)) = some (some (.int .u8 0), 1, 1) := by kernel_rfl
theorem info_msg : (Try.prog.info? 40).map (fun i => (i.zero, i.size, i.bytes)) = some (some (.agg #[.int .u16 0, .bool false, .slice none 0 0]), 3, 32) := by kernel_rfl
theorem info_u16 : (Try.prog.info? 30).map (fun i => (i.zero, i.size, i.bytes)) = some (some (.int .u16 0), 1, 2) := by kernel_rfl
theorem nums_one (k : IntKind) (bs : List Int) : ∀ u ∈ nums k bs, u.oneCell' = true := by
  intro u hu
  simp only [nums, List.mem_map] at hu
  obtain ⟨x, _, rfl⟩ := hu
  rfl
end Go.Proofs.Ytpkbckkminmdmaa
