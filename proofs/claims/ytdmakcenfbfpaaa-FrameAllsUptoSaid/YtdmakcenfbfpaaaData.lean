/- Plain data: the data that the program speaks of. No program in sight. -/
namespace Go.Proofs.Ytdmakcenfbfpaaa
/-- The bounds of Go's int. -/
def I64 (n : Int) : Prop := -9223372036854775808 ≤ n ∧ n ≤ 9223372036854775807
structure Mail where
  to : Int
  val : Int
def Mail.wf (x : Mail) : Prop := I64 x.to ∧ I64 x.val
structure Edge where
  src : Int
  dst : Int
  wt : Int
def Edge.wf (x : Edge) : Prop := I64 x.src ∧ I64 x.dst ∧ I64 x.wt
structure Hop where
  to : Int
  wt : Int
def Hop.wf (x : Hop) : Prop := I64 x.to ∧ I64 x.wt
structure Val where
  a : Int
  label : Int
def Val.wf (x : Val) : Prop := I64 x.a ∧ I64 x.label
structure Move where
  kind : Int
  at_ : Int
  keep : Int
def Move.wf (x : Move) : Prop := I64 x.kind ∧ I64 x.at_ ∧ I64 x.keep
structure Ack where
  epoch : Int
  no : Int
def Ack.wf (x : Ack) : Prop := I64 x.epoch ∧ I64 x.no
structure Rcv where
  epoch : Int
  want : Int
def Rcv.wf (x : Rcv) : Prop := I64 x.epoch ∧ I64 x.want
structure Packet where
  epoch : Int
  no : Int
  load : Mail
def Packet.wf (x : Packet) : Prop := I64 x.epoch ∧ I64 x.no ∧ x.load.wf
structure Graph where
  n : Int
  edges : List Edge
structure Sender where
  epoch : Int
  base : Int
  loads : List Mail
structure Job where
  graph : Graph
  kind : Int
  source : Int
structure Task where
  job : Job
  workers : Int
  every : Int
  budget : Int
end Go.Proofs.Ytdmakcenfbfpaaa
