/-
  NARROWER THAN 'FOR EVERY INPUT', by the rows' own cells (each row's printed sentence says how): VoteOnce: loops · VoteAsked: loops · VoteExact: loops · GrowTakes: loops · GrowTwice: loops · GrowCommits: loops · GrowNext: loops · RaftVotes: loops · RaftGrows: loops · RaftLeads: loops.
  DERIVED. THE GIVEN ROWS OF THIS SEAT. 10 by the template 'for every input the law returns true; each argument reads behind the call as it read before'; 0 by the template 'total and deterministic' (their statements: YtnbmngpdbnkhaaaTotals.lean).
  GIVEN WITH THE SEED: the statements are not yours to turn. If you find one false, say at which input.
  Laid BY PROGRAM, IN A SANDBOX (cutbox-rows.mjs): the forced cells as the released guide's own fill.sh prints them over the translation 6bc11e725e56ac50… (all of the seat's roots in one cut). By AI agents, Wed Nov 11 2026. No macro, syntax, notation, axiom, sorry.
-/
import Derived.Test.YtnbmngpdbnkhaaaChecked
import GoSem.Claim
import GoSem.ClaimJoined
import GoSem.ClaimMapViews
import Derived.JoinedTies
import Derived.KernelRfl
namespace Go.Proofs.Ytnbmngpdbnkhaaa
/- THE CELL 'sum', in the pinned program and in every row, IS THE sha256 OF THE DUMP (.gsa) THAT YtnbmngpdbnkhaaaProg.lean LOADS. Nothing in Lean hashes anything: it is a label: what it is worth is what the hold of that sum in a sandbox is worth. -/
noncomputable def Try.pinned : Pinned := { name := "ytnbmngpdbnkhaaa", sum := "6bc11e725e56ac50265013dd32527828aedcb2c42a45224c9e788a43dd7bcbff", checked := Try.checked }
namespace Rows
def none {H : Type} : Left H := { results := [], args := [] }

/-- 'skerrylaw15.VoteOnce': WHATEVER THE INPUT: true; the input reads as it did. -/
def voteOnceSpec : ChangeSpec := { name := "voteOnce", fn := fun _ => fun
  | [d1, d2, d3] => { results := [.lit (.bool true)], args := [d1, d2, d3] }
  | _ => none }
def voteOnceRow : OpenClaim := { program := "ytnbmngpdbnkhaaa", sum := "6bc11e725e56ac50265013dd32527828aedcb2c42a45224c9e788a43dd7bcbff", func := "skerry/skerrylaw15.VoteOnce", spec := "voteOnce", loops := true, apart := false }
def VoteOnceSaid : Prop := voteOnceRow.holds Try.pinned (OpenSpec.ofChange voteOnceSpec)

/-- ITS FALSE NEIGHBOUR: 'it returns false'. Refute it at one input. -/
def voteOnceWrong : ChangeSpec := { name := "voteOnce", fn := fun _ => fun
  | [d1, d2, d3] => { results := [.lit (.bool false)], args := [d1, d2, d3] }
  | _ => none }
def VoteOnceWrongFalsely : Prop := voteOnceRow.holds Try.pinned (OpenSpec.ofChange voteOnceWrong)

/-- 'skerrylaw15.VoteAsked': WHATEVER THE INPUT: true; the input reads as it did. -/
def voteAskedSpec : ChangeSpec := { name := "voteAsked", fn := fun _ => fun
  | [d1, d2] => { results := [.lit (.bool true)], args := [d1, d2] }
  | _ => none }
def voteAskedRow : OpenClaim := { program := "ytnbmngpdbnkhaaa", sum := "6bc11e725e56ac50265013dd32527828aedcb2c42a45224c9e788a43dd7bcbff", func := "skerry/skerrylaw15.VoteAsked", spec := "voteAsked", loops := true, apart := false }
def VoteAskedSaid : Prop := voteAskedRow.holds Try.pinned (OpenSpec.ofChange voteAskedSpec)

/-- ITS FALSE NEIGHBOUR: 'it returns false'. Refute it at one input. -/
def voteAskedWrong : ChangeSpec := { name := "voteAsked", fn := fun _ => fun
  | [d1, d2] => { results := [.lit (.bool false)], args := [d1, d2] }
  | _ => none }
def VoteAskedWrongFalsely : Prop := voteAskedRow.holds Try.pinned (OpenSpec.ofChange voteAskedWrong)

/-- 'skerrylaw15.VoteExact': WHATEVER THE INPUT: true; the input reads as it did. -/
def voteExactSpec : ChangeSpec := { name := "voteExact", fn := fun _ => fun
  | [d1, d2, d3, d4] => { results := [.lit (.bool true)], args := [d1, d2, d3, d4] }
  | _ => none }
def voteExactRow : OpenClaim := { program := "ytnbmngpdbnkhaaa", sum := "6bc11e725e56ac50265013dd32527828aedcb2c42a45224c9e788a43dd7bcbff", func := "skerry/skerrylaw15.VoteExact", spec := "voteExact", inPlace := ["math.Float64bits"], loops := true, apart := false }
def VoteExactSaid : Prop := voteExactRow.holds Try.pinned (OpenSpec.ofChange voteExactSpec)

/-- ITS FALSE NEIGHBOUR: 'it returns false'. Refute it at one input. -/
def voteExactWrong : ChangeSpec := { name := "voteExact", fn := fun _ => fun
  | [d1, d2, d3, d4] => { results := [.lit (.bool false)], args := [d1, d2, d3, d4] }
  | _ => none }
def VoteExactWrongFalsely : Prop := voteExactRow.holds Try.pinned (OpenSpec.ofChange voteExactWrong)

/-- 'skerrylaw16.GrowTakes': WHATEVER THE INPUT: true; the input reads as it did. -/
def growTakesSpec : ChangeSpec := { name := "growTakes", fn := fun _ => fun
  | [d1, d2, d3] => { results := [.lit (.bool true)], args := [d1, d2, d3] }
  | _ => none }
def growTakesRow : OpenClaim := { program := "ytnbmngpdbnkhaaa", sum := "6bc11e725e56ac50265013dd32527828aedcb2c42a45224c9e788a43dd7bcbff", func := "skerry/skerrylaw16.GrowTakes", spec := "growTakes", inPlace := ["math.Float64frombits", "math.Float64bits"], loops := true, apart := false }
def GrowTakesSaid : Prop := growTakesRow.holds Try.pinned (OpenSpec.ofChange growTakesSpec)

/-- ITS FALSE NEIGHBOUR: 'it returns false'. Refute it at one input. -/
def growTakesWrong : ChangeSpec := { name := "growTakes", fn := fun _ => fun
  | [d1, d2, d3] => { results := [.lit (.bool false)], args := [d1, d2, d3] }
  | _ => none }
def GrowTakesWrongFalsely : Prop := growTakesRow.holds Try.pinned (OpenSpec.ofChange growTakesWrong)

/-- 'skerrylaw16.GrowTwice': WHATEVER THE INPUT: true; the input reads as it did. -/
def growTwiceSpec : ChangeSpec := { name := "growTwice", fn := fun _ => fun
  | [d1, d2, d3] => { results := [.lit (.bool true)], args := [d1, d2, d3] }
  | _ => none }
def growTwiceRow : OpenClaim := { program := "ytnbmngpdbnkhaaa", sum := "6bc11e725e56ac50265013dd32527828aedcb2c42a45224c9e788a43dd7bcbff", func := "skerry/skerrylaw16.GrowTwice", spec := "growTwice", inPlace := ["math.Float64frombits", "math.Float64bits"], loops := true, apart := false }
def GrowTwiceSaid : Prop := growTwiceRow.holds Try.pinned (OpenSpec.ofChange growTwiceSpec)

/-- ITS FALSE NEIGHBOUR: 'it returns false'. Refute it at one input. -/
def growTwiceWrong : ChangeSpec := { name := "growTwice", fn := fun _ => fun
  | [d1, d2, d3] => { results := [.lit (.bool false)], args := [d1, d2, d3] }
  | _ => none }
def GrowTwiceWrongFalsely : Prop := growTwiceRow.holds Try.pinned (OpenSpec.ofChange growTwiceWrong)

/-- 'skerrylaw16.GrowCommits': WHATEVER THE INPUT: true; the input reads as it did. -/
def growCommitsSpec : ChangeSpec := { name := "growCommits", fn := fun _ => fun
  | [d1, d2, d3] => { results := [.lit (.bool true)], args := [d1, d2, d3] }
  | _ => none }
def growCommitsRow : OpenClaim := { program := "ytnbmngpdbnkhaaa", sum := "6bc11e725e56ac50265013dd32527828aedcb2c42a45224c9e788a43dd7bcbff", func := "skerry/skerrylaw16.GrowCommits", spec := "growCommits", inPlace := ["math.Float64frombits", "math.Float64bits"], loops := true, apart := false }
def GrowCommitsSaid : Prop := growCommitsRow.holds Try.pinned (OpenSpec.ofChange growCommitsSpec)

/-- ITS FALSE NEIGHBOUR: 'it returns false'. Refute it at one input. -/
def growCommitsWrong : ChangeSpec := { name := "growCommits", fn := fun _ => fun
  | [d1, d2, d3] => { results := [.lit (.bool false)], args := [d1, d2, d3] }
  | _ => none }
def GrowCommitsWrongFalsely : Prop := growCommitsRow.holds Try.pinned (OpenSpec.ofChange growCommitsWrong)

/-- 'skerrylaw16.GrowNext': WHATEVER THE INPUT: true; the input reads as it did. -/
def growNextSpec : ChangeSpec := { name := "growNext", fn := fun _ => fun
  | [d1, d2, d3] => { results := [.lit (.bool true)], args := [d1, d2, d3] }
  | _ => none }
def growNextRow : OpenClaim := { program := "ytnbmngpdbnkhaaa", sum := "6bc11e725e56ac50265013dd32527828aedcb2c42a45224c9e788a43dd7bcbff", func := "skerry/skerrylaw16.GrowNext", spec := "growNext", inPlace := ["math.Float64frombits", "math.Float64bits"], loops := true, apart := false }
def GrowNextSaid : Prop := growNextRow.holds Try.pinned (OpenSpec.ofChange growNextSpec)

/-- ITS FALSE NEIGHBOUR: 'it returns false'. Refute it at one input. -/
def growNextWrong : ChangeSpec := { name := "growNext", fn := fun _ => fun
  | [d1, d2, d3] => { results := [.lit (.bool false)], args := [d1, d2, d3] }
  | _ => none }
def GrowNextWrongFalsely : Prop := growNextRow.holds Try.pinned (OpenSpec.ofChange growNextWrong)

/-- 'skerrylaw18.RaftVotes': WHATEVER THE INPUT: true; the input reads as it did. -/
def raftVotesSpec : ChangeSpec := { name := "raftVotes", fn := fun _ => fun
  | [d1, d2] => { results := [.lit (.bool true)], args := [d1, d2] }
  | _ => none }
def raftVotesRow : OpenClaim := { program := "ytnbmngpdbnkhaaa", sum := "6bc11e725e56ac50265013dd32527828aedcb2c42a45224c9e788a43dd7bcbff", func := "skerry/skerrylaw18.RaftVotes", spec := "raftVotes", inPlace := ["math.Float64frombits", "math.Float64bits"], loops := true, apart := false }
def RaftVotesSaid : Prop := raftVotesRow.holds Try.pinned (OpenSpec.ofChange raftVotesSpec)

/-- ITS FALSE NEIGHBOUR: 'it returns false'. Refute it at one input. -/
def raftVotesWrong : ChangeSpec := { name := "raftVotes", fn := fun _ => fun
  | [d1, d2] => { results := [.lit (.bool false)], args := [d1, d2] }
  | _ => none }
def RaftVotesWrongFalsely : Prop := raftVotesRow.holds Try.pinned (OpenSpec.ofChange raftVotesWrong)

/-- 'skerrylaw18.RaftGrows': WHATEVER THE INPUT: true; the input reads as it did. -/
def raftGrowsSpec : ChangeSpec := { name := "raftGrows", fn := fun _ => fun
  | [d1, d2] => { results := [.lit (.bool true)], args := [d1, d2] }
  | _ => none }
def raftGrowsRow : OpenClaim := { program := "ytnbmngpdbnkhaaa", sum := "6bc11e725e56ac50265013dd32527828aedcb2c42a45224c9e788a43dd7bcbff", func := "skerry/skerrylaw18.RaftGrows", spec := "raftGrows", inPlace := ["math.Float64frombits", "math.Float64bits"], loops := true, apart := false }
def RaftGrowsSaid : Prop := raftGrowsRow.holds Try.pinned (OpenSpec.ofChange raftGrowsSpec)

/-- ITS FALSE NEIGHBOUR: 'it returns false'. Refute it at one input. -/
def raftGrowsWrong : ChangeSpec := { name := "raftGrows", fn := fun _ => fun
  | [d1, d2] => { results := [.lit (.bool false)], args := [d1, d2] }
  | _ => none }
def RaftGrowsWrongFalsely : Prop := raftGrowsRow.holds Try.pinned (OpenSpec.ofChange raftGrowsWrong)

/-- 'skerrylaw18.RaftLeads': WHATEVER THE INPUT: true; the input reads as it did. -/
def raftLeadsSpec : ChangeSpec := { name := "raftLeads", fn := fun _ => fun
  | [d1, d2, d3] => { results := [.lit (.bool true)], args := [d1, d2, d3] }
  | _ => none }
def raftLeadsRow : OpenClaim := { program := "ytnbmngpdbnkhaaa", sum := "6bc11e725e56ac50265013dd32527828aedcb2c42a45224c9e788a43dd7bcbff", func := "skerry/skerrylaw18.RaftLeads", spec := "raftLeads", inPlace := ["math.Float64frombits", "math.Float64bits"], loops := true, apart := false }
def RaftLeadsSaid : Prop := raftLeadsRow.holds Try.pinned (OpenSpec.ofChange raftLeadsSpec)

/-- ITS FALSE NEIGHBOUR: 'it returns false'. Refute it at one input. -/
def raftLeadsWrong : ChangeSpec := { name := "raftLeads", fn := fun _ => fun
  | [d1, d2, d3] => { results := [.lit (.bool false)], args := [d1, d2, d3] }
  | _ => none }
def RaftLeadsWrongFalsely : Prop := raftLeadsRow.holds Try.pinned (OpenSpec.ofChange raftLeadsWrong)

/- THE SECOND FORM. 'bulk': how many values and letters a reading holds, each counted each time it is reached (what is shared counts as often as it is met; a slice's spare places count too). A statement '..UptoSaid' is the law's where the arguments, and the package variables that the reading takes, are together of bulk at most 1048576: NARROWER than '..Said'. Prove '..Said' where nothing that the law and all that it calls make is longer than what came in: it says more and counts as full. Else prove '..UptoSaid'. A law counts once. -/
mutual
def uptoBulk {H : Type} : DataW H → Nat
  | .lit (.string bytes) => bytes.length + 1
  | .lit _ => 1
  | .nil => 1
  | .ptr d => uptoBulk d + 1
  | .slice elems spare => uptoBulkAll elems + uptoBulkAll spare + 1
  | .agg parts => uptoBulkAll parts + 1
  | .iface _ d => uptoBulk d + 1
  | .map entries => uptoBulkEntries entries + 1
  | .held _ => 1
def uptoBulkAll {H : Type} : List (DataW H) → Nat
  | [] => 0
  | d :: r => uptoBulk d + uptoBulkAll r
def uptoBulkEntries {H : Type} : List (Lit × DataW H) → Nat
  | [] => 0
  | x :: r => uptoBulkEntry x + uptoBulkEntries r
def uptoBulkEntry {H : Type} : Lit × DataW H → Nat
  | (.string bytes, d) => bytes.length + uptoBulk d + 1
  | (_, d) => uptoBulk d + 1
 end
def uptoSmall : (H : Type) → List (DataW H) → Bool := fun _ ds => decide (uptoBulkAll ds ≤ 1048576)
def OpenSpec.upto (s : _root_.Go.ChangeSpec) : _root_.Go.OpenSpec := { _root_.Go.OpenSpec.ofChange s with cond := some uptoSmall }

/-- 'skerrylaw15.VoteOnce', WHERE WHAT IT READS IS OF BULK AT MOST 1048576: true; the input reads as it did. -/
def voteOnceUptoRow : OpenClaim := { program := "ytnbmngpdbnkhaaa", sum := "6bc11e725e56ac50265013dd32527828aedcb2c42a45224c9e788a43dd7bcbff", func := "skerry/skerrylaw15.VoteOnce", spec := "voteOnce", loops := true, apart := false, narrowed := true }
def VoteOnceUptoSaid : Prop := voteOnceUptoRow.holds Try.pinned (OpenSpec.upto voteOnceSpec)

/-- 'skerrylaw15.VoteAsked', WHERE WHAT IT READS IS OF BULK AT MOST 1048576: true; the input reads as it did. -/
def voteAskedUptoRow : OpenClaim := { program := "ytnbmngpdbnkhaaa", sum := "6bc11e725e56ac50265013dd32527828aedcb2c42a45224c9e788a43dd7bcbff", func := "skerry/skerrylaw15.VoteAsked", spec := "voteAsked", loops := true, apart := false, narrowed := true }
def VoteAskedUptoSaid : Prop := voteAskedUptoRow.holds Try.pinned (OpenSpec.upto voteAskedSpec)

/-- 'skerrylaw15.VoteExact', WHERE WHAT IT READS IS OF BULK AT MOST 1048576: true; the input reads as it did. -/
def voteExactUptoRow : OpenClaim := { program := "ytnbmngpdbnkhaaa", sum := "6bc11e725e56ac50265013dd32527828aedcb2c42a45224c9e788a43dd7bcbff", func := "skerry/skerrylaw15.VoteExact", spec := "voteExact", inPlace := ["math.Float64bits"], loops := true, apart := false, narrowed := true }
def VoteExactUptoSaid : Prop := voteExactUptoRow.holds Try.pinned (OpenSpec.upto voteExactSpec)

/-- 'skerrylaw16.GrowTakes', WHERE WHAT IT READS IS OF BULK AT MOST 1048576: true; the input reads as it did. -/
def growTakesUptoRow : OpenClaim := { program := "ytnbmngpdbnkhaaa", sum := "6bc11e725e56ac50265013dd32527828aedcb2c42a45224c9e788a43dd7bcbff", func := "skerry/skerrylaw16.GrowTakes", spec := "growTakes", inPlace := ["math.Float64frombits", "math.Float64bits"], loops := true, apart := false, narrowed := true }
def GrowTakesUptoSaid : Prop := growTakesUptoRow.holds Try.pinned (OpenSpec.upto growTakesSpec)

/-- 'skerrylaw16.GrowTwice', WHERE WHAT IT READS IS OF BULK AT MOST 1048576: true; the input reads as it did. -/
def growTwiceUptoRow : OpenClaim := { program := "ytnbmngpdbnkhaaa", sum := "6bc11e725e56ac50265013dd32527828aedcb2c42a45224c9e788a43dd7bcbff", func := "skerry/skerrylaw16.GrowTwice", spec := "growTwice", inPlace := ["math.Float64frombits", "math.Float64bits"], loops := true, apart := false, narrowed := true }
def GrowTwiceUptoSaid : Prop := growTwiceUptoRow.holds Try.pinned (OpenSpec.upto growTwiceSpec)

/-- 'skerrylaw16.GrowCommits', WHERE WHAT IT READS IS OF BULK AT MOST 1048576: true; the input reads as it did. -/
def growCommitsUptoRow : OpenClaim := { program := "ytnbmngpdbnkhaaa", sum := "6bc11e725e56ac50265013dd32527828aedcb2c42a45224c9e788a43dd7bcbff", func := "skerry/skerrylaw16.GrowCommits", spec := "growCommits", inPlace := ["math.Float64frombits", "math.Float64bits"], loops := true, apart := false, narrowed := true }
def GrowCommitsUptoSaid : Prop := growCommitsUptoRow.holds Try.pinned (OpenSpec.upto growCommitsSpec)

/-- 'skerrylaw16.GrowNext', WHERE WHAT IT READS IS OF BULK AT MOST 1048576: true; the input reads as it did. -/
def growNextUptoRow : OpenClaim := { program := "ytnbmngpdbnkhaaa", sum := "6bc11e725e56ac50265013dd32527828aedcb2c42a45224c9e788a43dd7bcbff", func := "skerry/skerrylaw16.GrowNext", spec := "growNext", inPlace := ["math.Float64frombits", "math.Float64bits"], loops := true, apart := false, narrowed := true }
def GrowNextUptoSaid : Prop := growNextUptoRow.holds Try.pinned (OpenSpec.upto growNextSpec)

/-- 'skerrylaw18.RaftVotes', WHERE WHAT IT READS IS OF BULK AT MOST 1048576: true; the input reads as it did. -/
def raftVotesUptoRow : OpenClaim := { program := "ytnbmngpdbnkhaaa", sum := "6bc11e725e56ac50265013dd32527828aedcb2c42a45224c9e788a43dd7bcbff", func := "skerry/skerrylaw18.RaftVotes", spec := "raftVotes", inPlace := ["math.Float64frombits", "math.Float64bits"], loops := true, apart := false, narrowed := true }
def RaftVotesUptoSaid : Prop := raftVotesUptoRow.holds Try.pinned (OpenSpec.upto raftVotesSpec)

/-- 'skerrylaw18.RaftGrows', WHERE WHAT IT READS IS OF BULK AT MOST 1048576: true; the input reads as it did. -/
def raftGrowsUptoRow : OpenClaim := { program := "ytnbmngpdbnkhaaa", sum := "6bc11e725e56ac50265013dd32527828aedcb2c42a45224c9e788a43dd7bcbff", func := "skerry/skerrylaw18.RaftGrows", spec := "raftGrows", inPlace := ["math.Float64frombits", "math.Float64bits"], loops := true, apart := false, narrowed := true }
def RaftGrowsUptoSaid : Prop := raftGrowsUptoRow.holds Try.pinned (OpenSpec.upto raftGrowsSpec)

/-- 'skerrylaw18.RaftLeads', WHERE WHAT IT READS IS OF BULK AT MOST 1048576: true; the input reads as it did. -/
def raftLeadsUptoRow : OpenClaim := { program := "ytnbmngpdbnkhaaa", sum := "6bc11e725e56ac50265013dd32527828aedcb2c42a45224c9e788a43dd7bcbff", func := "skerry/skerrylaw18.RaftLeads", spec := "raftLeads", inPlace := ["math.Float64frombits", "math.Float64bits"], loops := true, apart := false, narrowed := true }
def RaftLeadsUptoSaid : Prop := raftLeadsUptoRow.holds Try.pinned (OpenSpec.upto raftLeadsSpec)

end Rows
end Go.Proofs.Ytnbmngpdbnkhaaa
