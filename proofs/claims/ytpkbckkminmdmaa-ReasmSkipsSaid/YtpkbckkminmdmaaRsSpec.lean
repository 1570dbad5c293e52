/- The meaning of package reasm as plain functions on lists: no Go and no memory. -/
namespace Go.Proofs.Ytpkbckkminmdmaa.Rs

structure Pc where
  tsn : Int
  stream : Int
  ssn : Int
  un : Bool
  fi : Bool
  la : Bool
  bytes : List Int

structure Ms where
  stream : Int
  ord : Bool
  bytes : List Int

structure St where
  L : List Pc
  next : List Int
  row : List Ms

def inc (t : Int) : Int := (t + 1) % 4294967296
def dec (t : Int) : Int := (t - 1) % 4294967296
def inc16 (t : Int) : Int := (t + 1) % 65536
def less16 (a b : Int) : Bool := decide (1 ≤ (b - a) % 65536) && decide ((b - a) % 65536 < 32768)
def less32 (a b : Int) : Bool := decide (1 ≤ (b - a) % 4294967296) && decide ((b - a) % 4294967296 < 2147483648)
def mates (a b : Pc) : Bool := a.stream == b.stream && a.ssn == b.ssn && a.un == b.un
def get (L : List Pc) (t : Int) : Option Pc := L.find? fun p => p.tsn == t

def back (L : List Pc) (d : Pc) : Nat → Pc → Option Pc
  | 0, _ => none
  | n + 1, q => if q.fi then some q else
    match get L (dec q.tsn) with
    | none => none
    | some x => if mates x d && !x.la then back L d n x else none
def fwd (L : List Pc) (d : Pc) : Nat → Pc → Option (List Pc)
  | 0, _ => none
  | n + 1, q => if q.la then some [q] else
    match get L (inc q.tsn) with
    | none => none
    | some x => if mates x d && !x.fi then (fwd L d n x).map (q :: ·) else none
def whole (L : List Pc) (p : Pc) : Option (List Pc) := (back L p L.length p).bind fun f => fwd L p L.length f

def msgOf (l : List Pc) : Ms := { stream := (l.head?.map (·.stream)).getD 0, ord := !((l.head?.map (·.un)).getD false), bytes := l.flatMap (·.bytes) }
def without (L l : List Pc) : List Pc := L.filter fun p => !(l.any fun q => q.tsn == p.tsn)
def ready (s : St) (l : List Pc) : St := { L := without s.L l, next := s.next, row := s.row ++ [msgOf l] }
def nextOf (s : St) (stream : Int) : Int := s.next.getD stream.toNat 0
def bump (s : St) (stream : Int) : St := { s with next := s.next.set stream.toNat (inc16 (nextOf s stream)) }
def fits (p : Pc) (stream ssn : Int) : Bool := !p.un && p.stream == stream && p.ssn == ssn
def ordered (L : List Pc) (stream ssn : Int) : Option (List Pc) := L.findSome? fun p => if fits p stream ssn then whole L p else none

/-- One call of 'waiting'. -/
def waiting (s : St) (stream : Int) : Option St := (ordered s.L stream (nextOf s stream)).map (ready s)
def on (stream : Int) : Nat → St → St
  | 0, s => s
  | n + 1, s => match waiting s stream with
    | none => s
    | some s' => on stream n (bump s' stream)
def onAll (s : St) (stream : Int) : St := on stream (s.L.length + 1) s

def put (s : St) (d : Pc) : St × Int :=
  if d.stream.toNat ≥ s.next.length then (s, 4)
  else if d.bytes.length = 0 then (s, 5)
  else if !d.un && less16 d.ssn (nextOf s d.stream) then (s, 1)
  else if (get s.L d.tsn).isSome then (s, 1)
  else
    let s1 : St := { s with L := s.L ++ [d] }
    if !d.un then (onAll s1 d.stream, 0)
    else match whole s1.L d with
      | some l => (ready s1 l, 0)
      | none => (s1, 0)

def parts (L : List Pc) (cum : Int) : List Pc := L.filter fun p => (p.tsn != cum && !less32 p.tsn cum) || (whole L p).isSome
def skipTo (stream to : Int) : Nat → St → St
  | 0, s => s
  | n + 1, s => if nextOf s stream = inc16 to then s else
    let s' := (waiting s stream).getD s
    skipTo stream to n (bump s' stream)
def late (s : St) (stream : Int) : List Pc := s.L.filter fun p => p.un || p.stream != stream || !less16 p.ssn (nextOf s stream)
def skip1 (s : St) (stream to : Int) : St :=
  if nextOf s stream != to && !less16 (nextOf s stream) to then s
  else
    let s1 := skipTo stream to 65537 s
    let s2 : St := { s1 with L := late s1 stream }
    onAll s2 stream
def skipAll (s : St) : List (Int × Int) → St
  | [] => s
  | (a, b) :: r => skipAll (skip1 s a b) r
def skip (s : St) (cum : Int) (sk : List (Int × Int)) : St × Int :=
  if sk.any fun x => decide (x.1.toNat ≥ s.next.length) then (s, 4)
  else (skipAll { s with L := parts s.L cum } sk, 0)
def take (s : St) : Option (Ms × St) := match s.row with
  | [] => none
  | m :: r => some (m, { s with row := r })
def held (s : St) : Int := (s.L.map fun p => (p.bytes.length : Int)).sum + (s.row.map fun m => (m.bytes.length : Int)).sum
def new (streams : Nat) : St := { L := [], next := List.replicate streams 0, row := [] }

end Go.Proofs.Ytpkbckkminmdmaa.Rs
