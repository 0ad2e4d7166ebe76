/-
  NARROWER THAN 'FOR EVERY INPUT', by the rows' own cells (each row's printed sentence says how): Sha2Blocks: laid · Sha2Pieces: laid · Sha2Sums: laid · Sha2Hashes: laid · Sha2None: laid · Sha2Padded: laid · Sha2Begins: laid · Sha2Keys: laid · SealSeals: laid · SealOpens: laid · SealBack: laid · SealTags: laid · SealBits: laid · SealKeys: laid · DrbgFull: laid · DrbgSame: laid · DrbgParts: laid · DrbgDoes: laid · DrbgNone: laid · JournalNone: laid · JournalOpens: laid · JournalBack: laid · JournalWhole: laid.
  DERIVED. THE GIVEN ROWS OF THIS SEAT. 23 by the template 'for every input the law returns true; each argument reads behind the call as it read before'; 0 by the template 'total and deterministic' (their statements: YtgbahfggnbpnmaaDoorTotals.lean).
  GIVEN WITH THE SEED: the statements are not yours to turn. If you find one false, say at which input.
  Laid BY PROGRAM, IN A SANDBOX (cutbox-rows.mjs): the forced cells as the released guide's own fill.sh prints them over the translation 9f2e16f68944e229… (all of the seat's roots in one cut). By AI agents, Wed Nov 11 2026. No macro, syntax, notation, axiom, sorry.
-/
import Derived.Test.YtgbahfggnbpnmaaDoorChecked
import GoSem.Claim
import GoSem.ClaimJoined
import GoSem.ClaimMapViews
import Derived.JoinedTies
import Derived.KernelRfl
namespace Go.Proofs.YtgbahfggnbpnmaaDoor
/- THE CELL 'sum', in the pinned program and in every row, IS THE sha256 OF THE DUMP (.gsa) THAT YtgbahfggnbpnmaaDoorProg.lean LOADS. Nothing in Lean hashes anything: it is a label: what it is worth is what the hold of that sum in a sandbox is worth. -/
noncomputable def Tryd.pinned : Pinned := { name := "ytgbahfggnbpnmaadoor", sum := "9f2e16f68944e229949c29076d93d3db264171f80f5e8e26112582322c95e112", checked := Tryd.checked }
namespace Rows
def none {H : Type} : Left H := { results := [], args := [] }

/- WHAT THE LISTED PACKAGE-LEVEL VARIABLES READ AS WHEN THE CALL BEGINS. Each datum BY PROGRAM (the guide's laid-datum.mjs) off the statement by which the dump's own 'gosem.cut.vars' lays the variable. In a bare row this is a premise. The card (YtgbahfggnbpnmaaDoorCards.lean) ties it to the program's text. -/
def laid_livery_sha2_table {H : Type} : DataW H := .agg [.lit (.int .u32 1116352408), .lit (.int .u32 1899447441), .lit (.int .u32 3049323471), .lit (.int .u32 3921009573), .lit (.int .u32 961987163), .lit (.int .u32 1508970993), .lit (.int .u32 2453635748), .lit (.int .u32 2870763221), .lit (.int .u32 3624381080), .lit (.int .u32 310598401), .lit (.int .u32 607225278), .lit (.int .u32 1426881987), .lit (.int .u32 1925078388), .lit (.int .u32 2162078206), .lit (.int .u32 2614888103), .lit (.int .u32 3248222580), .lit (.int .u32 3835390401), .lit (.int .u32 4022224774), .lit (.int .u32 264347078), .lit (.int .u32 604807628), .lit (.int .u32 770255983), .lit (.int .u32 1249150122), .lit (.int .u32 1555081692), .lit (.int .u32 1996064986), .lit (.int .u32 2554220882), .lit (.int .u32 2821834349), .lit (.int .u32 2952996808), .lit (.int .u32 3210313671), .lit (.int .u32 3336571891), .lit (.int .u32 3584528711), .lit (.int .u32 113926993), .lit (.int .u32 338241895), .lit (.int .u32 666307205), .lit (.int .u32 773529912), .lit (.int .u32 1294757372), .lit (.int .u32 1396182291), .lit (.int .u32 1695183700), .lit (.int .u32 1986661051), .lit (.int .u32 2177026350), .lit (.int .u32 2456956037), .lit (.int .u32 2730485921), .lit (.int .u32 2820302411), .lit (.int .u32 3259730800), .lit (.int .u32 3345764771), .lit (.int .u32 3516065817), .lit (.int .u32 3600352804), .lit (.int .u32 4094571909), .lit (.int .u32 275423344), .lit (.int .u32 430227734), .lit (.int .u32 506948616), .lit (.int .u32 659060556), .lit (.int .u32 883997877), .lit (.int .u32 958139571), .lit (.int .u32 1322822218), .lit (.int .u32 1537002063), .lit (.int .u32 1747873779), .lit (.int .u32 1955562222), .lit (.int .u32 2024104815), .lit (.int .u32 2227730452), .lit (.int .u32 2361852424), .lit (.int .u32 2428436474), .lit (.int .u32 2756734187), .lit (.int .u32 3204031479), .lit (.int .u32 3329325298)]
def laid_livery_sha2_start {H : Type} : DataW H := .agg [.lit (.int .u32 1779033703), .lit (.int .u32 3144134277), .lit (.int .u32 1013904242), .lit (.int .u32 2773480762), .lit (.int .u32 1359893119), .lit (.int .u32 2600822924), .lit (.int .u32 528734635), .lit (.int .u32 1541459225)]

/-- 'liverylaw02.Sha2Blocks': WHATEVER THE INPUT: true; the input reads as it did. -/
def sha2BlocksSpec : ChangeSpec := { name := "sha2Blocks", fn := fun _ => fun
  | [d1, d2] => { results := [.lit (.bool true)], args := [d1, d2] }
  | _ => none }
def sha2BlocksRow : OpenClaim := { program := "ytgbahfggnbpnmaadoor", sum := "9f2e16f68944e229949c29076d93d3db264171f80f5e8e26112582322c95e112", func := "livery/liverylaw02.Sha2Blocks", spec := "sha2Blocks", named := ["livery/sha2.start", "livery/sha2.table"], apart := false, laid := [("livery/sha2.table", laid_livery_sha2_table), ("livery/sha2.start", laid_livery_sha2_start)] }
def Sha2BlocksSaid : Prop := sha2BlocksRow.holds Tryd.pinned (OpenSpec.ofChange sha2BlocksSpec)

/-- ITS FALSE NEIGHBOUR: 'it returns false'. Refute it at one input. -/
def sha2BlocksWrong : ChangeSpec := { name := "sha2Blocks", fn := fun _ => fun
  | [d1, d2] => { results := [.lit (.bool false)], args := [d1, d2] }
  | _ => none }
def Sha2BlocksWrongFalsely : Prop := sha2BlocksRow.holds Tryd.pinned (OpenSpec.ofChange sha2BlocksWrong)

/-- 'liverylaw02.Sha2Pieces': WHATEVER THE INPUT: true; the input reads as it did. -/
def sha2PiecesSpec : ChangeSpec := { name := "sha2Pieces", fn := fun _ => fun
  | [d1, d2] => { results := [.lit (.bool true)], args := [d1, d2] }
  | _ => none }
def sha2PiecesRow : OpenClaim := { program := "ytgbahfggnbpnmaadoor", sum := "9f2e16f68944e229949c29076d93d3db264171f80f5e8e26112582322c95e112", func := "livery/liverylaw02.Sha2Pieces", spec := "sha2Pieces", named := ["livery/sha2.start", "livery/sha2.table"], apart := false, laid := [("livery/sha2.table", laid_livery_sha2_table), ("livery/sha2.start", laid_livery_sha2_start)] }
def Sha2PiecesSaid : Prop := sha2PiecesRow.holds Tryd.pinned (OpenSpec.ofChange sha2PiecesSpec)

/-- ITS FALSE NEIGHBOUR: 'it returns false'. Refute it at one input. -/
def sha2PiecesWrong : ChangeSpec := { name := "sha2Pieces", fn := fun _ => fun
  | [d1, d2] => { results := [.lit (.bool false)], args := [d1, d2] }
  | _ => none }
def Sha2PiecesWrongFalsely : Prop := sha2PiecesRow.holds Tryd.pinned (OpenSpec.ofChange sha2PiecesWrong)

/-- 'liverylaw02.Sha2Sums': WHATEVER THE INPUT: true; the input reads as it did. -/
def sha2SumsSpec : ChangeSpec := { name := "sha2Sums", fn := fun _ => fun
  | [d] => { results := [.lit (.bool true)], args := [d] }
  | _ => none }
def sha2SumsRow : OpenClaim := { program := "ytgbahfggnbpnmaadoor", sum := "9f2e16f68944e229949c29076d93d3db264171f80f5e8e26112582322c95e112", func := "livery/liverylaw02.Sha2Sums", spec := "sha2Sums", named := ["livery/sha2.start", "livery/sha2.table"], apart := false, laid := [("livery/sha2.table", laid_livery_sha2_table), ("livery/sha2.start", laid_livery_sha2_start)] }
def Sha2SumsSaid : Prop := sha2SumsRow.holds Tryd.pinned (OpenSpec.ofChange sha2SumsSpec)

/-- ITS FALSE NEIGHBOUR: 'it returns false'. Refute it at one input. -/
def sha2SumsWrong : ChangeSpec := { name := "sha2Sums", fn := fun _ => fun
  | [d] => { results := [.lit (.bool false)], args := [d] }
  | _ => none }
def Sha2SumsWrongFalsely : Prop := sha2SumsRow.holds Tryd.pinned (OpenSpec.ofChange sha2SumsWrong)

/-- 'liverylaw02.Sha2Hashes': WHATEVER THE INPUT: true; the input reads as it did. -/
def sha2HashesSpec : ChangeSpec := { name := "sha2Hashes", fn := fun _ => fun
  | [d1, d2] => { results := [.lit (.bool true)], args := [d1, d2] }
  | _ => none }
def sha2HashesRow : OpenClaim := { program := "ytgbahfggnbpnmaadoor", sum := "9f2e16f68944e229949c29076d93d3db264171f80f5e8e26112582322c95e112", func := "livery/liverylaw02.Sha2Hashes", spec := "sha2Hashes", named := ["livery/sha2.start", "livery/sha2.table"], apart := false, laid := [("livery/sha2.table", laid_livery_sha2_table), ("livery/sha2.start", laid_livery_sha2_start)] }
def Sha2HashesSaid : Prop := sha2HashesRow.holds Tryd.pinned (OpenSpec.ofChange sha2HashesSpec)

/-- ITS FALSE NEIGHBOUR: 'it returns false'. Refute it at one input. -/
def sha2HashesWrong : ChangeSpec := { name := "sha2Hashes", fn := fun _ => fun
  | [d1, d2] => { results := [.lit (.bool false)], args := [d1, d2] }
  | _ => none }
def Sha2HashesWrongFalsely : Prop := sha2HashesRow.holds Tryd.pinned (OpenSpec.ofChange sha2HashesWrong)

/-- 'liverylaw02.Sha2None': WHATEVER THE INPUT: true; the input reads as it did. -/
def sha2NoneSpec : ChangeSpec := { name := "sha2None", fn := fun _ => fun
  | [d] => { results := [.lit (.bool true)], args := [d] }
  | _ => none }
def sha2NoneRow : OpenClaim := { program := "ytgbahfggnbpnmaadoor", sum := "9f2e16f68944e229949c29076d93d3db264171f80f5e8e26112582322c95e112", func := "livery/liverylaw02.Sha2None", spec := "sha2None", named := ["livery/sha2.table", "livery/sha2.start"], apart := false, laid := [("livery/sha2.table", laid_livery_sha2_table), ("livery/sha2.start", laid_livery_sha2_start)] }
def Sha2NoneSaid : Prop := sha2NoneRow.holds Tryd.pinned (OpenSpec.ofChange sha2NoneSpec)

/-- ITS FALSE NEIGHBOUR: 'it returns false'. Refute it at one input. -/
def sha2NoneWrong : ChangeSpec := { name := "sha2None", fn := fun _ => fun
  | [d] => { results := [.lit (.bool false)], args := [d] }
  | _ => none }
def Sha2NoneWrongFalsely : Prop := sha2NoneRow.holds Tryd.pinned (OpenSpec.ofChange sha2NoneWrong)

/-- 'liverylaw02.Sha2Padded': WHATEVER THE INPUT: true; the input reads as it did. -/
def sha2PaddedSpec : ChangeSpec := { name := "sha2Padded", fn := fun _ => fun
  | [d1, d2, d3] => { results := [.lit (.bool true)], args := [d1, d2, d3] }
  | _ => none }
def sha2PaddedRow : OpenClaim := { program := "ytgbahfggnbpnmaadoor", sum := "9f2e16f68944e229949c29076d93d3db264171f80f5e8e26112582322c95e112", func := "livery/liverylaw02.Sha2Padded", spec := "sha2Padded", named := ["livery/sha2.start", "livery/sha2.table"], apart := false, laid := [("livery/sha2.table", laid_livery_sha2_table), ("livery/sha2.start", laid_livery_sha2_start)] }
def Sha2PaddedSaid : Prop := sha2PaddedRow.holds Tryd.pinned (OpenSpec.ofChange sha2PaddedSpec)

/-- ITS FALSE NEIGHBOUR: 'it returns false'. Refute it at one input. -/
def sha2PaddedWrong : ChangeSpec := { name := "sha2Padded", fn := fun _ => fun
  | [d1, d2, d3] => { results := [.lit (.bool false)], args := [d1, d2, d3] }
  | _ => none }
def Sha2PaddedWrongFalsely : Prop := sha2PaddedRow.holds Tryd.pinned (OpenSpec.ofChange sha2PaddedWrong)

/-- 'liverylaw02.Sha2Begins': WHATEVER THE INPUT: true; the input reads as it did. -/
def sha2BeginsSpec : ChangeSpec := { name := "sha2Begins", fn := fun _ => fun
  | [d1, d2, d3, d4] => { results := [.lit (.bool true)], args := [d1, d2, d3, d4] }
  | _ => none }
def sha2BeginsRow : OpenClaim := { program := "ytgbahfggnbpnmaadoor", sum := "9f2e16f68944e229949c29076d93d3db264171f80f5e8e26112582322c95e112", func := "livery/liverylaw02.Sha2Begins", spec := "sha2Begins", named := ["livery/sha2.start", "livery/sha2.table"], apart := false, laid := [("livery/sha2.table", laid_livery_sha2_table), ("livery/sha2.start", laid_livery_sha2_start)] }
def Sha2BeginsSaid : Prop := sha2BeginsRow.holds Tryd.pinned (OpenSpec.ofChange sha2BeginsSpec)

/-- ITS FALSE NEIGHBOUR: 'it returns false'. Refute it at one input. -/
def sha2BeginsWrong : ChangeSpec := { name := "sha2Begins", fn := fun _ => fun
  | [d1, d2, d3, d4] => { results := [.lit (.bool false)], args := [d1, d2, d3, d4] }
  | _ => none }
def Sha2BeginsWrongFalsely : Prop := sha2BeginsRow.holds Tryd.pinned (OpenSpec.ofChange sha2BeginsWrong)

/-- 'liverylaw02.Sha2Keys': WHATEVER THE INPUT: true; the input reads as it did. -/
def sha2KeysSpec : ChangeSpec := { name := "sha2Keys", fn := fun _ => fun
  | [d1, d2, d3] => { results := [.lit (.bool true)], args := [d1, d2, d3] }
  | _ => none }
def sha2KeysRow : OpenClaim := { program := "ytgbahfggnbpnmaadoor", sum := "9f2e16f68944e229949c29076d93d3db264171f80f5e8e26112582322c95e112", func := "livery/liverylaw02.Sha2Keys", spec := "sha2Keys", named := ["livery/sha2.start", "livery/sha2.table"], apart := false, laid := [("livery/sha2.table", laid_livery_sha2_table), ("livery/sha2.start", laid_livery_sha2_start)] }
def Sha2KeysSaid : Prop := sha2KeysRow.holds Tryd.pinned (OpenSpec.ofChange sha2KeysSpec)

/-- ITS FALSE NEIGHBOUR: 'it returns false'. Refute it at one input. -/
def sha2KeysWrong : ChangeSpec := { name := "sha2Keys", fn := fun _ => fun
  | [d1, d2, d3] => { results := [.lit (.bool false)], args := [d1, d2, d3] }
  | _ => none }
def Sha2KeysWrongFalsely : Prop := sha2KeysRow.holds Tryd.pinned (OpenSpec.ofChange sha2KeysWrong)

/-- 'liverylaw04.SealSeals': WHATEVER THE INPUT: true; the input reads as it did. -/
def sealSealsSpec : ChangeSpec := { name := "sealSeals", fn := fun _ => fun
  | [d1, d2, d3, d4] => { results := [.lit (.bool true)], args := [d1, d2, d3, d4] }
  | _ => none }
def sealSealsRow : OpenClaim := { program := "ytgbahfggnbpnmaadoor", sum := "9f2e16f68944e229949c29076d93d3db264171f80f5e8e26112582322c95e112", func := "livery/liverylaw04.SealSeals", spec := "sealSeals", named := ["livery/sha2.start", "livery/sha2.table"], apart := false, laid := [("livery/sha2.table", laid_livery_sha2_table), ("livery/sha2.start", laid_livery_sha2_start)] }
def SealSealsSaid : Prop := sealSealsRow.holds Tryd.pinned (OpenSpec.ofChange sealSealsSpec)

/-- ITS FALSE NEIGHBOUR: 'it returns false'. Refute it at one input. -/
def sealSealsWrong : ChangeSpec := { name := "sealSeals", fn := fun _ => fun
  | [d1, d2, d3, d4] => { results := [.lit (.bool false)], args := [d1, d2, d3, d4] }
  | _ => none }
def SealSealsWrongFalsely : Prop := sealSealsRow.holds Tryd.pinned (OpenSpec.ofChange sealSealsWrong)

/-- 'liverylaw04.SealOpens': WHATEVER THE INPUT: true; the input reads as it did. -/
def sealOpensSpec : ChangeSpec := { name := "sealOpens", fn := fun _ => fun
  | [d1, d2, d3, d4] => { results := [.lit (.bool true)], args := [d1, d2, d3, d4] }
  | _ => none }
def sealOpensRow : OpenClaim := { program := "ytgbahfggnbpnmaadoor", sum := "9f2e16f68944e229949c29076d93d3db264171f80f5e8e26112582322c95e112", func := "livery/liverylaw04.SealOpens", spec := "sealOpens", named := ["livery/sha2.start", "livery/sha2.table"], apart := false, laid := [("livery/sha2.table", laid_livery_sha2_table), ("livery/sha2.start", laid_livery_sha2_start)] }
def SealOpensSaid : Prop := sealOpensRow.holds Tryd.pinned (OpenSpec.ofChange sealOpensSpec)

/-- ITS FALSE NEIGHBOUR: 'it returns false'. Refute it at one input. -/
def sealOpensWrong : ChangeSpec := { name := "sealOpens", fn := fun _ => fun
  | [d1, d2, d3, d4] => { results := [.lit (.bool false)], args := [d1, d2, d3, d4] }
  | _ => none }
def SealOpensWrongFalsely : Prop := sealOpensRow.holds Tryd.pinned (OpenSpec.ofChange sealOpensWrong)

/-- 'liverylaw04.SealBack': WHATEVER THE INPUT: true; the input reads as it did. -/
def sealBackSpec : ChangeSpec := { name := "sealBack", fn := fun _ => fun
  | [d1, d2, d3, d4] => { results := [.lit (.bool true)], args := [d1, d2, d3, d4] }
  | _ => none }
def sealBackRow : OpenClaim := { program := "ytgbahfggnbpnmaadoor", sum := "9f2e16f68944e229949c29076d93d3db264171f80f5e8e26112582322c95e112", func := "livery/liverylaw04.SealBack", spec := "sealBack", named := ["livery/sha2.start", "livery/sha2.table"], apart := false, laid := [("livery/sha2.table", laid_livery_sha2_table), ("livery/sha2.start", laid_livery_sha2_start)] }
def SealBackSaid : Prop := sealBackRow.holds Tryd.pinned (OpenSpec.ofChange sealBackSpec)

/-- ITS FALSE NEIGHBOUR: 'it returns false'. Refute it at one input. -/
def sealBackWrong : ChangeSpec := { name := "sealBack", fn := fun _ => fun
  | [d1, d2, d3, d4] => { results := [.lit (.bool false)], args := [d1, d2, d3, d4] }
  | _ => none }
def SealBackWrongFalsely : Prop := sealBackRow.holds Tryd.pinned (OpenSpec.ofChange sealBackWrong)

/-- 'liverylaw04.SealTags': WHATEVER THE INPUT: true; the input reads as it did. -/
def sealTagsSpec : ChangeSpec := { name := "sealTags", fn := fun _ => fun
  | [d1, d2, d3, d4, d5] => { results := [.lit (.bool true)], args := [d1, d2, d3, d4, d5] }
  | _ => none }
def sealTagsRow : OpenClaim := { program := "ytgbahfggnbpnmaadoor", sum := "9f2e16f68944e229949c29076d93d3db264171f80f5e8e26112582322c95e112", func := "livery/liverylaw04.SealTags", spec := "sealTags", named := ["livery/sha2.start", "livery/sha2.table"], apart := false, laid := [("livery/sha2.table", laid_livery_sha2_table), ("livery/sha2.start", laid_livery_sha2_start)] }
def SealTagsSaid : Prop := sealTagsRow.holds Tryd.pinned (OpenSpec.ofChange sealTagsSpec)

/-- ITS FALSE NEIGHBOUR: 'it returns false'. Refute it at one input. -/
def sealTagsWrong : ChangeSpec := { name := "sealTags", fn := fun _ => fun
  | [d1, d2, d3, d4, d5] => { results := [.lit (.bool false)], args := [d1, d2, d3, d4, d5] }
  | _ => none }
def SealTagsWrongFalsely : Prop := sealTagsRow.holds Tryd.pinned (OpenSpec.ofChange sealTagsWrong)

/-- 'liverylaw04.SealBits': WHATEVER THE INPUT: true; the input reads as it did. -/
def sealBitsSpec : ChangeSpec := { name := "sealBits", fn := fun _ => fun
  | [d1, d2, d3, d4, d5] => { results := [.lit (.bool true)], args := [d1, d2, d3, d4, d5] }
  | _ => none }
def sealBitsRow : OpenClaim := { program := "ytgbahfggnbpnmaadoor", sum := "9f2e16f68944e229949c29076d93d3db264171f80f5e8e26112582322c95e112", func := "livery/liverylaw04.SealBits", spec := "sealBits", named := ["livery/sha2.start", "livery/sha2.table"], apart := false, laid := [("livery/sha2.table", laid_livery_sha2_table), ("livery/sha2.start", laid_livery_sha2_start)] }
def SealBitsSaid : Prop := sealBitsRow.holds Tryd.pinned (OpenSpec.ofChange sealBitsSpec)

/-- ITS FALSE NEIGHBOUR: 'it returns false'. Refute it at one input. -/
def sealBitsWrong : ChangeSpec := { name := "sealBits", fn := fun _ => fun
  | [d1, d2, d3, d4, d5] => { results := [.lit (.bool false)], args := [d1, d2, d3, d4, d5] }
  | _ => none }
def SealBitsWrongFalsely : Prop := sealBitsRow.holds Tryd.pinned (OpenSpec.ofChange sealBitsWrong)

/-- 'liverylaw04.SealKeys': WHATEVER THE INPUT: true; the input reads as it did. -/
def sealKeysSpec : ChangeSpec := { name := "sealKeys", fn := fun _ => fun
  | [d1, d2, d3, d4, d5] => { results := [.lit (.bool true)], args := [d1, d2, d3, d4, d5] }
  | _ => none }
def sealKeysRow : OpenClaim := { program := "ytgbahfggnbpnmaadoor", sum := "9f2e16f68944e229949c29076d93d3db264171f80f5e8e26112582322c95e112", func := "livery/liverylaw04.SealKeys", spec := "sealKeys", named := ["livery/sha2.start", "livery/sha2.table"], apart := false, laid := [("livery/sha2.table", laid_livery_sha2_table), ("livery/sha2.start", laid_livery_sha2_start)] }
def SealKeysSaid : Prop := sealKeysRow.holds Tryd.pinned (OpenSpec.ofChange sealKeysSpec)

/-- ITS FALSE NEIGHBOUR: 'it returns false'. Refute it at one input. -/
def sealKeysWrong : ChangeSpec := { name := "sealKeys", fn := fun _ => fun
  | [d1, d2, d3, d4, d5] => { results := [.lit (.bool false)], args := [d1, d2, d3, d4, d5] }
  | _ => none }
def SealKeysWrongFalsely : Prop := sealKeysRow.holds Tryd.pinned (OpenSpec.ofChange sealKeysWrong)

/-- 'liverylaw05.DrbgFull': WHATEVER THE INPUT: true; the input reads as it did. -/
def drbgFullSpec : ChangeSpec := { name := "drbgFull", fn := fun _ => fun
  | [d1, d2, d3] => { results := [.lit (.bool true)], args := [d1, d2, d3] }
  | _ => none }
def drbgFullRow : OpenClaim := { program := "ytgbahfggnbpnmaadoor", sum := "9f2e16f68944e229949c29076d93d3db264171f80f5e8e26112582322c95e112", func := "livery/liverylaw05.DrbgFull", spec := "drbgFull", named := ["livery/sha2.start", "livery/sha2.table"], apart := false, laid := [("livery/sha2.table", laid_livery_sha2_table), ("livery/sha2.start", laid_livery_sha2_start)] }
def DrbgFullSaid : Prop := drbgFullRow.holds Tryd.pinned (OpenSpec.ofChange drbgFullSpec)

/-- ITS FALSE NEIGHBOUR: 'it returns false'. Refute it at one input. -/
def drbgFullWrong : ChangeSpec := { name := "drbgFull", fn := fun _ => fun
  | [d1, d2, d3] => { results := [.lit (.bool false)], args := [d1, d2, d3] }
  | _ => none }
def DrbgFullWrongFalsely : Prop := drbgFullRow.holds Tryd.pinned (OpenSpec.ofChange drbgFullWrong)

/-- 'liverylaw05.DrbgSame': WHATEVER THE INPUT: true; the input reads as it did. -/
def drbgSameSpec : ChangeSpec := { name := "drbgSame", fn := fun _ => fun
  | [d1, d2, d3, d4] => { results := [.lit (.bool true)], args := [d1, d2, d3, d4] }
  | _ => none }
def drbgSameRow : OpenClaim := { program := "ytgbahfggnbpnmaadoor", sum := "9f2e16f68944e229949c29076d93d3db264171f80f5e8e26112582322c95e112", func := "livery/liverylaw05.DrbgSame", spec := "drbgSame", named := ["livery/sha2.start", "livery/sha2.table"], apart := false, laid := [("livery/sha2.table", laid_livery_sha2_table), ("livery/sha2.start", laid_livery_sha2_start)] }
def DrbgSameSaid : Prop := drbgSameRow.holds Tryd.pinned (OpenSpec.ofChange drbgSameSpec)

/-- ITS FALSE NEIGHBOUR: 'it returns false'. Refute it at one input. -/
def drbgSameWrong : ChangeSpec := { name := "drbgSame", fn := fun _ => fun
  | [d1, d2, d3, d4] => { results := [.lit (.bool false)], args := [d1, d2, d3, d4] }
  | _ => none }
def DrbgSameWrongFalsely : Prop := drbgSameRow.holds Tryd.pinned (OpenSpec.ofChange drbgSameWrong)

/-- 'liverylaw05.DrbgParts': WHATEVER THE INPUT: true; the input reads as it did. -/
def drbgPartsSpec : ChangeSpec := { name := "drbgParts", fn := fun _ => fun
  | [d1, d2, d3, d4] => { results := [.lit (.bool true)], args := [d1, d2, d3, d4] }
  | _ => none }
def drbgPartsRow : OpenClaim := { program := "ytgbahfggnbpnmaadoor", sum := "9f2e16f68944e229949c29076d93d3db264171f80f5e8e26112582322c95e112", func := "livery/liverylaw05.DrbgParts", spec := "drbgParts", named := ["livery/sha2.start", "livery/sha2.table"], apart := false, laid := [("livery/sha2.table", laid_livery_sha2_table), ("livery/sha2.start", laid_livery_sha2_start)] }
def DrbgPartsSaid : Prop := drbgPartsRow.holds Tryd.pinned (OpenSpec.ofChange drbgPartsSpec)

/-- ITS FALSE NEIGHBOUR: 'it returns false'. Refute it at one input. -/
def drbgPartsWrong : ChangeSpec := { name := "drbgParts", fn := fun _ => fun
  | [d1, d2, d3, d4] => { results := [.lit (.bool false)], args := [d1, d2, d3, d4] }
  | _ => none }
def DrbgPartsWrongFalsely : Prop := drbgPartsRow.holds Tryd.pinned (OpenSpec.ofChange drbgPartsWrong)

/-- 'liverylaw05.DrbgDoes': WHATEVER THE INPUT: true; the input reads as it did. -/
def drbgDoesSpec : ChangeSpec := { name := "drbgDoes", fn := fun _ => fun
  | [d1, d2, d3, d4] => { results := [.lit (.bool true)], args := [d1, d2, d3, d4] }
  | _ => none }
def drbgDoesRow : OpenClaim := { program := "ytgbahfggnbpnmaadoor", sum := "9f2e16f68944e229949c29076d93d3db264171f80f5e8e26112582322c95e112", func := "livery/liverylaw05.DrbgDoes", spec := "drbgDoes", named := ["livery/sha2.start", "livery/sha2.table"], apart := false, laid := [("livery/sha2.table", laid_livery_sha2_table), ("livery/sha2.start", laid_livery_sha2_start)] }
def DrbgDoesSaid : Prop := drbgDoesRow.holds Tryd.pinned (OpenSpec.ofChange drbgDoesSpec)

/-- ITS FALSE NEIGHBOUR: 'it returns false'. Refute it at one input. -/
def drbgDoesWrong : ChangeSpec := { name := "drbgDoes", fn := fun _ => fun
  | [d1, d2, d3, d4] => { results := [.lit (.bool false)], args := [d1, d2, d3, d4] }
  | _ => none }
def DrbgDoesWrongFalsely : Prop := drbgDoesRow.holds Tryd.pinned (OpenSpec.ofChange drbgDoesWrong)

/-- 'liverylaw05.DrbgNone': WHATEVER THE INPUT: true; the input reads as it did. -/
def drbgNoneSpec : ChangeSpec := { name := "drbgNone", fn := fun _ => fun
  | [d1, d2] => { results := [.lit (.bool true)], args := [d1, d2] }
  | _ => none }
def drbgNoneRow : OpenClaim := { program := "ytgbahfggnbpnmaadoor", sum := "9f2e16f68944e229949c29076d93d3db264171f80f5e8e26112582322c95e112", func := "livery/liverylaw05.DrbgNone", spec := "drbgNone", named := ["livery/sha2.start", "livery/sha2.table"], apart := false, laid := [("livery/sha2.table", laid_livery_sha2_table), ("livery/sha2.start", laid_livery_sha2_start)] }
def DrbgNoneSaid : Prop := drbgNoneRow.holds Tryd.pinned (OpenSpec.ofChange drbgNoneSpec)

/-- ITS FALSE NEIGHBOUR: 'it returns false'. Refute it at one input. -/
def drbgNoneWrong : ChangeSpec := { name := "drbgNone", fn := fun _ => fun
  | [d1, d2] => { results := [.lit (.bool false)], args := [d1, d2] }
  | _ => none }
def DrbgNoneWrongFalsely : Prop := drbgNoneRow.holds Tryd.pinned (OpenSpec.ofChange drbgNoneWrong)

/-- 'liverylaw18.JournalNone': WHATEVER THE INPUT: true; the input reads as it did. -/
def journalNoneSpec : ChangeSpec := { name := "journalNone", fn := fun _ => fun
  | [d1, d2] => { results := [.lit (.bool true)], args := [d1, d2] }
  | _ => none }
def journalNoneRow : OpenClaim := { program := "ytgbahfggnbpnmaadoor", sum := "9f2e16f68944e229949c29076d93d3db264171f80f5e8e26112582322c95e112", func := "livery/liverylaw18.JournalNone", spec := "journalNone", unfollowed := true, recurses := true, named := ["livery/sha2.start", "livery/sha2.table"], apart := false, laid := [("livery/sha2.table", laid_livery_sha2_table), ("livery/sha2.start", laid_livery_sha2_start)] }
def JournalNoneSaid : Prop := journalNoneRow.holds Tryd.pinned (OpenSpec.ofChange journalNoneSpec)

/-- ITS FALSE NEIGHBOUR: 'it returns false'. Refute it at one input. -/
def journalNoneWrong : ChangeSpec := { name := "journalNone", fn := fun _ => fun
  | [d1, d2] => { results := [.lit (.bool false)], args := [d1, d2] }
  | _ => none }
def JournalNoneWrongFalsely : Prop := journalNoneRow.holds Tryd.pinned (OpenSpec.ofChange journalNoneWrong)

/-- 'liverylaw18.JournalOpens': WHATEVER THE INPUT: true; the input reads as it did. -/
def journalOpensSpec : ChangeSpec := { name := "journalOpens", fn := fun _ => fun
  | [d] => { results := [.lit (.bool true)], args := [d] }
  | _ => none }
def journalOpensRow : OpenClaim := { program := "ytgbahfggnbpnmaadoor", sum := "9f2e16f68944e229949c29076d93d3db264171f80f5e8e26112582322c95e112", func := "livery/liverylaw18.JournalOpens", spec := "journalOpens", unfollowed := true, recurses := true, named := ["livery/sha2.start", "livery/sha2.table"], apart := false, laid := [("livery/sha2.table", laid_livery_sha2_table), ("livery/sha2.start", laid_livery_sha2_start)] }
def JournalOpensSaid : Prop := journalOpensRow.holds Tryd.pinned (OpenSpec.ofChange journalOpensSpec)

/-- ITS FALSE NEIGHBOUR: 'it returns false'. Refute it at one input. -/
def journalOpensWrong : ChangeSpec := { name := "journalOpens", fn := fun _ => fun
  | [d] => { results := [.lit (.bool false)], args := [d] }
  | _ => none }
def JournalOpensWrongFalsely : Prop := journalOpensRow.holds Tryd.pinned (OpenSpec.ofChange journalOpensWrong)

/-- 'liverylaw18.JournalBack': WHATEVER THE INPUT: true; the input reads as it did. -/
def journalBackSpec : ChangeSpec := { name := "journalBack", fn := fun _ => fun
  | [d1, d2] => { results := [.lit (.bool true)], args := [d1, d2] }
  | _ => none }
def journalBackRow : OpenClaim := { program := "ytgbahfggnbpnmaadoor", sum := "9f2e16f68944e229949c29076d93d3db264171f80f5e8e26112582322c95e112", func := "livery/liverylaw18.JournalBack", spec := "journalBack", unfollowed := true, recurses := true, named := ["livery/sha2.start", "livery/sha2.table"], apart := false, laid := [("livery/sha2.table", laid_livery_sha2_table), ("livery/sha2.start", laid_livery_sha2_start)] }
def JournalBackSaid : Prop := journalBackRow.holds Tryd.pinned (OpenSpec.ofChange journalBackSpec)

/-- ITS FALSE NEIGHBOUR: 'it returns false'. Refute it at one input. -/
def journalBackWrong : ChangeSpec := { name := "journalBack", fn := fun _ => fun
  | [d1, d2] => { results := [.lit (.bool false)], args := [d1, d2] }
  | _ => none }
def JournalBackWrongFalsely : Prop := journalBackRow.holds Tryd.pinned (OpenSpec.ofChange journalBackWrong)

/-- 'liverylaw18.JournalWhole': WHATEVER THE INPUT: true; the input reads as it did. -/
def journalWholeSpec : ChangeSpec := { name := "journalWhole", fn := fun _ => fun
  | [d1, d2, d3, d4, d5] => { results := [.lit (.bool true)], args := [d1, d2, d3, d4, d5] }
  | _ => none }
def journalWholeRow : OpenClaim := { program := "ytgbahfggnbpnmaadoor", sum := "9f2e16f68944e229949c29076d93d3db264171f80f5e8e26112582322c95e112", func := "livery/liverylaw18.JournalWhole", spec := "journalWhole", unfollowed := true, recurses := true, named := ["livery/sha2.start", "livery/sha2.table"], apart := false, laid := [("livery/sha2.table", laid_livery_sha2_table), ("livery/sha2.start", laid_livery_sha2_start)] }
def JournalWholeSaid : Prop := journalWholeRow.holds Tryd.pinned (OpenSpec.ofChange journalWholeSpec)

/-- ITS FALSE NEIGHBOUR: 'it returns false'. Refute it at one input. -/
def journalWholeWrong : ChangeSpec := { name := "journalWhole", fn := fun _ => fun
  | [d1, d2, d3, d4, d5] => { results := [.lit (.bool false)], args := [d1, d2, d3, d4, d5] }
  | _ => none }
def JournalWholeWrongFalsely : Prop := journalWholeRow.holds Tryd.pinned (OpenSpec.ofChange journalWholeWrong)

/- THE SECOND FORM. 'bulk': how many values and letters a reading holds, each counted each time it is reached (what is shared counts as often as it is met; a slice's spare places count too). A statement '..UptoSaid' is the law's where the arguments, and the package variables that the reading takes, are together of bulk at most 1048576: NARROWER than '..Said'. Prove '..Said' where nothing that the law and all that it calls make is longer than what came in: it says more and counts as full. Else prove '..UptoSaid'. A law counts once. -/
mutual
def uptoBulk {H : Type} : DataW H → Nat
  | .lit (.string bytes) => bytes.length + 1
  | .lit _ => 1
  | .nil => 1
  | .ptr d => uptoBulk d + 1
  | .slice elems spare => uptoBulkAll elems + uptoBulkAll spare + 1
  | .agg parts => uptoBulkAll parts + 1
  | .iface _ d => uptoBulk d + 1
  | .map entries => uptoBulkEntries entries + 1
  | .held _ => 1
def uptoBulkAll {H : Type} : List (DataW H) → Nat
  | [] => 0
  | d :: r => uptoBulk d + uptoBulkAll r
def uptoBulkEntries {H : Type} : List (Lit × DataW H) → Nat
  | [] => 0
  | x :: r => uptoBulkEntry x + uptoBulkEntries r
def uptoBulkEntry {H : Type} : Lit × DataW H → Nat
  | (.string bytes, d) => bytes.length + uptoBulk d + 1
  | (_, d) => uptoBulk d + 1
 end
def uptoSmall : (H : Type) → List (DataW H) → Bool := fun _ ds => decide (uptoBulkAll ds ≤ 1048576)
def OpenSpec.upto (s : _root_.Go.ChangeSpec) : _root_.Go.OpenSpec := { _root_.Go.OpenSpec.ofChange s with cond := some uptoSmall }

/-- 'liverylaw02.Sha2Blocks', WHERE WHAT IT READS IS OF BULK AT MOST 1048576: true; the input reads as it did. -/
def sha2BlocksUptoRow : OpenClaim := { program := "ytgbahfggnbpnmaadoor", sum := "9f2e16f68944e229949c29076d93d3db264171f80f5e8e26112582322c95e112", func := "livery/liverylaw02.Sha2Blocks", spec := "sha2Blocks", named := ["livery/sha2.start", "livery/sha2.table"], apart := false, laid := [("livery/sha2.table", laid_livery_sha2_table), ("livery/sha2.start", laid_livery_sha2_start)], narrowed := true }
def Sha2BlocksUptoSaid : Prop := sha2BlocksUptoRow.holds Tryd.pinned (OpenSpec.upto sha2BlocksSpec)

/-- 'liverylaw02.Sha2Pieces', WHERE WHAT IT READS IS OF BULK AT MOST 1048576: true; the input reads as it did. -/
def sha2PiecesUptoRow : OpenClaim := { program := "ytgbahfggnbpnmaadoor", sum := "9f2e16f68944e229949c29076d93d3db264171f80f5e8e26112582322c95e112", func := "livery/liverylaw02.Sha2Pieces", spec := "sha2Pieces", named := ["livery/sha2.start", "livery/sha2.table"], apart := false, laid := [("livery/sha2.table", laid_livery_sha2_table), ("livery/sha2.start", laid_livery_sha2_start)], narrowed := true }
def Sha2PiecesUptoSaid : Prop := sha2PiecesUptoRow.holds Tryd.pinned (OpenSpec.upto sha2PiecesSpec)

/-- 'liverylaw02.Sha2Sums', WHERE WHAT IT READS IS OF BULK AT MOST 1048576: true; the input reads as it did. -/
def sha2SumsUptoRow : OpenClaim := { program := "ytgbahfggnbpnmaadoor", sum := "9f2e16f68944e229949c29076d93d3db264171f80f5e8e26112582322c95e112", func := "livery/liverylaw02.Sha2Sums", spec := "sha2Sums", named := ["livery/sha2.start", "livery/sha2.table"], apart := false, laid := [("livery/sha2.table", laid_livery_sha2_table), ("livery/sha2.start", laid_livery_sha2_start)], narrowed := true }
def Sha2SumsUptoSaid : Prop := sha2SumsUptoRow.holds Tryd.pinned (OpenSpec.upto sha2SumsSpec)

/-- 'liverylaw02.Sha2Hashes', WHERE WHAT IT READS IS OF BULK AT MOST 1048576: true; the input reads as it did. -/
def sha2HashesUptoRow : OpenClaim := { program := "ytgbahfggnbpnmaadoor", sum := "9f2e16f68944e229949c29076d93d3db264171f80f5e8e26112582322c95e112", func := "livery/liverylaw02.Sha2Hashes", spec := "sha2Hashes", named := ["livery/sha2.start", "livery/sha2.table"], apart := false, laid := [("livery/sha2.table", laid_livery_sha2_table), ("livery/sha2.start", laid_livery_sha2_start)], narrowed := true }
def Sha2HashesUptoSaid : Prop := sha2HashesUptoRow.holds Tryd.pinned (OpenSpec.upto sha2HashesSpec)

/-- 'liverylaw02.Sha2None', WHERE WHAT IT READS IS OF BULK AT MOST 1048576: true; the input reads as it did. -/
def sha2NoneUptoRow : OpenClaim := { program := "ytgbahfggnbpnmaadoor", sum := "9f2e16f68944e229949c29076d93d3db264171f80f5e8e26112582322c95e112", func := "livery/liverylaw02.Sha2None", spec := "sha2None", named := ["livery/sha2.table", "livery/sha2.start"], apart := false, laid := [("livery/sha2.table", laid_livery_sha2_table), ("livery/sha2.start", laid_livery_sha2_start)], narrowed := true }
def Sha2NoneUptoSaid : Prop := sha2NoneUptoRow.holds Tryd.pinned (OpenSpec.upto sha2NoneSpec)

/-- 'liverylaw02.Sha2Padded', WHERE WHAT IT READS IS OF BULK AT MOST 1048576: true; the input reads as it did. -/
def sha2PaddedUptoRow : OpenClaim := { program := "ytgbahfggnbpnmaadoor", sum := "9f2e16f68944e229949c29076d93d3db264171f80f5e8e26112582322c95e112", func := "livery/liverylaw02.Sha2Padded", spec := "sha2Padded", named := ["livery/sha2.start", "livery/sha2.table"], apart := false, laid := [("livery/sha2.table", laid_livery_sha2_table), ("livery/sha2.start", laid_livery_sha2_start)], narrowed := true }
def Sha2PaddedUptoSaid : Prop := sha2PaddedUptoRow.holds Tryd.pinned (OpenSpec.upto sha2PaddedSpec)

/-- 'liverylaw02.Sha2Begins', WHERE WHAT IT READS IS OF BULK AT MOST 1048576: true; the input reads as it did. -/
def sha2BeginsUptoRow : OpenClaim := { program := "ytgbahfggnbpnmaadoor", sum := "9f2e16f68944e229949c29076d93d3db264171f80f5e8e26112582322c95e112", func := "livery/liverylaw02.Sha2Begins", spec := "sha2Begins", named := ["livery/sha2.start", "livery/sha2.table"], apart := false, laid := [("livery/sha2.table", laid_livery_sha2_table), ("livery/sha2.start", laid_livery_sha2_start)], narrowed := true }
def Sha2BeginsUptoSaid : Prop := sha2BeginsUptoRow.holds Tryd.pinned (OpenSpec.upto sha2BeginsSpec)

/-- 'liverylaw02.Sha2Keys', WHERE WHAT IT READS IS OF BULK AT MOST 1048576: true; the input reads as it did. -/
def sha2KeysUptoRow : OpenClaim := { program := "ytgbahfggnbpnmaadoor", sum := "9f2e16f68944e229949c29076d93d3db264171f80f5e8e26112582322c95e112", func := "livery/liverylaw02.Sha2Keys", spec := "sha2Keys", named := ["livery/sha2.start", "livery/sha2.table"], apart := false, laid := [("livery/sha2.table", laid_livery_sha2_table), ("livery/sha2.start", laid_livery_sha2_start)], narrowed := true }
def Sha2KeysUptoSaid : Prop := sha2KeysUptoRow.holds Tryd.pinned (OpenSpec.upto sha2KeysSpec)

/-- 'liverylaw04.SealSeals', WHERE WHAT IT READS IS OF BULK AT MOST 1048576: true; the input reads as it did. -/
def sealSealsUptoRow : OpenClaim := { program := "ytgbahfggnbpnmaadoor", sum := "9f2e16f68944e229949c29076d93d3db264171f80f5e8e26112582322c95e112", func := "livery/liverylaw04.SealSeals", spec := "sealSeals", named := ["livery/sha2.start", "livery/sha2.table"], apart := false, laid := [("livery/sha2.table", laid_livery_sha2_table), ("livery/sha2.start", laid_livery_sha2_start)], narrowed := true }
def SealSealsUptoSaid : Prop := sealSealsUptoRow.holds Tryd.pinned (OpenSpec.upto sealSealsSpec)

/-- 'liverylaw04.SealOpens', WHERE WHAT IT READS IS OF BULK AT MOST 1048576: true; the input reads as it did. -/
def sealOpensUptoRow : OpenClaim := { program := "ytgbahfggnbpnmaadoor", sum := "9f2e16f68944e229949c29076d93d3db264171f80f5e8e26112582322c95e112", func := "livery/liverylaw04.SealOpens", spec := "sealOpens", named := ["livery/sha2.start", "livery/sha2.table"], apart := false, laid := [("livery/sha2.table", laid_livery_sha2_table), ("livery/sha2.start", laid_livery_sha2_start)], narrowed := true }
def SealOpensUptoSaid : Prop := sealOpensUptoRow.holds Tryd.pinned (OpenSpec.upto sealOpensSpec)

/-- 'liverylaw04.SealBack', WHERE WHAT IT READS IS OF BULK AT MOST 1048576: true; the input reads as it did. -/
def sealBackUptoRow : OpenClaim := { program := "ytgbahfggnbpnmaadoor", sum := "9f2e16f68944e229949c29076d93d3db264171f80f5e8e26112582322c95e112", func := "livery/liverylaw04.SealBack", spec := "sealBack", named := ["livery/sha2.start", "livery/sha2.table"], apart := false, laid := [("livery/sha2.table", laid_livery_sha2_table), ("livery/sha2.start", laid_livery_sha2_start)], narrowed := true }
def SealBackUptoSaid : Prop := sealBackUptoRow.holds Tryd.pinned (OpenSpec.upto sealBackSpec)

/-- 'liverylaw04.SealTags', WHERE WHAT IT READS IS OF BULK AT MOST 1048576: true; the input reads as it did. -/
def sealTagsUptoRow : OpenClaim := { program := "ytgbahfggnbpnmaadoor", sum := "9f2e16f68944e229949c29076d93d3db264171f80f5e8e26112582322c95e112", func := "livery/liverylaw04.SealTags", spec := "sealTags", named := ["livery/sha2.start", "livery/sha2.table"], apart := false, laid := [("livery/sha2.table", laid_livery_sha2_table), ("livery/sha2.start", laid_livery_sha2_start)], narrowed := true }
def SealTagsUptoSaid : Prop := sealTagsUptoRow.holds Tryd.pinned (OpenSpec.upto sealTagsSpec)

/-- 'liverylaw04.SealBits', WHERE WHAT IT READS IS OF BULK AT MOST 1048576: true; the input reads as it did. -/
def sealBitsUptoRow : OpenClaim := { program := "ytgbahfggnbpnmaadoor", sum := "9f2e16f68944e229949c29076d93d3db264171f80f5e8e26112582322c95e112", func := "livery/liverylaw04.SealBits", spec := "sealBits", named := ["livery/sha2.start", "livery/sha2.table"], apart := false, laid := [("livery/sha2.table", laid_livery_sha2_table), ("livery/sha2.start", laid_livery_sha2_start)], narrowed := true }
def SealBitsUptoSaid : Prop := sealBitsUptoRow.holds Tryd.pinned (OpenSpec.upto sealBitsSpec)

/-- 'liverylaw04.SealKeys', WHERE WHAT IT READS IS OF BULK AT MOST 1048576: true; the input reads as it did. -/
def sealKeysUptoRow : OpenClaim := { program := "ytgbahfggnbpnmaadoor", sum := "9f2e16f68944e229949c29076d93d3db264171f80f5e8e26112582322c95e112", func := "livery/liverylaw04.SealKeys", spec := "sealKeys", named := ["livery/sha2.start", "livery/sha2.table"], apart := false, laid := [("livery/sha2.table", laid_livery_sha2_table), ("livery/sha2.start", laid_livery_sha2_start)], narrowed := true }
def SealKeysUptoSaid : Prop := sealKeysUptoRow.holds Tryd.pinned (OpenSpec.upto sealKeysSpec)

/-- 'liverylaw05.DrbgFull', WHERE WHAT IT READS IS OF BULK AT MOST 1048576: true; the input reads as it did. -/
def drbgFullUptoRow : OpenClaim := { program := "ytgbahfggnbpnmaadoor", sum := "9f2e16f68944e229949c29076d93d3db264171f80f5e8e26112582322c95e112", func := "livery/liverylaw05.DrbgFull", spec := "drbgFull", named := ["livery/sha2.start", "livery/sha2.table"], apart := false, laid := [("livery/sha2.table", laid_livery_sha2_table), ("livery/sha2.start", laid_livery_sha2_start)], narrowed := true }
def DrbgFullUptoSaid : Prop := drbgFullUptoRow.holds Tryd.pinned (OpenSpec.upto drbgFullSpec)

/-- 'liverylaw05.DrbgSame', WHERE WHAT IT READS IS OF BULK AT MOST 1048576: true; the input reads as it did. -/
def drbgSameUptoRow : OpenClaim := { program := "ytgbahfggnbpnmaadoor", sum := "9f2e16f68944e229949c29076d93d3db264171f80f5e8e26112582322c95e112", func := "livery/liverylaw05.DrbgSame", spec := "drbgSame", named := ["livery/sha2.start", "livery/sha2.table"], apart := false, laid := [("livery/sha2.table", laid_livery_sha2_table), ("livery/sha2.start", laid_livery_sha2_start)], narrowed := true }
def DrbgSameUptoSaid : Prop := drbgSameUptoRow.holds Tryd.pinned (OpenSpec.upto drbgSameSpec)

/-- 'liverylaw05.DrbgParts', WHERE WHAT IT READS IS OF BULK AT MOST 1048576: true; the input reads as it did. -/
def drbgPartsUptoRow : OpenClaim := { program := "ytgbahfggnbpnmaadoor", sum := "9f2e16f68944e229949c29076d93d3db264171f80f5e8e26112582322c95e112", func := "livery/liverylaw05.DrbgParts", spec := "drbgParts", named := ["livery/sha2.start", "livery/sha2.table"], apart := false, laid := [("livery/sha2.table", laid_livery_sha2_table), ("livery/sha2.start", laid_livery_sha2_start)], narrowed := true }
def DrbgPartsUptoSaid : Prop := drbgPartsUptoRow.holds Tryd.pinned (OpenSpec.upto drbgPartsSpec)

/-- 'liverylaw05.DrbgDoes', WHERE WHAT IT READS IS OF BULK AT MOST 1048576: true; the input reads as it did. -/
def drbgDoesUptoRow : OpenClaim := { program := "ytgbahfggnbpnmaadoor", sum := "9f2e16f68944e229949c29076d93d3db264171f80f5e8e26112582322c95e112", func := "livery/liverylaw05.DrbgDoes", spec := "drbgDoes", named := ["livery/sha2.start", "livery/sha2.table"], apart := false, laid := [("livery/sha2.table", laid_livery_sha2_table), ("livery/sha2.start", laid_livery_sha2_start)], narrowed := true }
def DrbgDoesUptoSaid : Prop := drbgDoesUptoRow.holds Tryd.pinned (OpenSpec.upto drbgDoesSpec)

/-- 'liverylaw05.DrbgNone', WHERE WHAT IT READS IS OF BULK AT MOST 1048576: true; the input reads as it did. -/
def drbgNoneUptoRow : OpenClaim := { program := "ytgbahfggnbpnmaadoor", sum := "9f2e16f68944e229949c29076d93d3db264171f80f5e8e26112582322c95e112", func := "livery/liverylaw05.DrbgNone", spec := "drbgNone", named := ["livery/sha2.start", "livery/sha2.table"], apart := false, laid := [("livery/sha2.table", laid_livery_sha2_table), ("livery/sha2.start", laid_livery_sha2_start)], narrowed := true }
def DrbgNoneUptoSaid : Prop := drbgNoneUptoRow.holds Tryd.pinned (OpenSpec.upto drbgNoneSpec)

/-- 'liverylaw18.JournalNone', WHERE WHAT IT READS IS OF BULK AT MOST 1048576: true; the input reads as it did. -/
def journalNoneUptoRow : OpenClaim := { program := "ytgbahfggnbpnmaadoor", sum := "9f2e16f68944e229949c29076d93d3db264171f80f5e8e26112582322c95e112", func := "livery/liverylaw18.JournalNone", spec := "journalNone", unfollowed := true, recurses := true, named := ["livery/sha2.start", "livery/sha2.table"], apart := false, laid := [("livery/sha2.table", laid_livery_sha2_table), ("livery/sha2.start", laid_livery_sha2_start)], narrowed := true }
def JournalNoneUptoSaid : Prop := journalNoneUptoRow.holds Tryd.pinned (OpenSpec.upto journalNoneSpec)

/-- 'liverylaw18.JournalOpens', WHERE WHAT IT READS IS OF BULK AT MOST 1048576: true; the input reads as it did. -/
def journalOpensUptoRow : OpenClaim := { program := "ytgbahfggnbpnmaadoor", sum := "9f2e16f68944e229949c29076d93d3db264171f80f5e8e26112582322c95e112", func := "livery/liverylaw18.JournalOpens", spec := "journalOpens", unfollowed := true, recurses := true, named := ["livery/sha2.start", "livery/sha2.table"], apart := false, laid := [("livery/sha2.table", laid_livery_sha2_table), ("livery/sha2.start", laid_livery_sha2_start)], narrowed := true }
def JournalOpensUptoSaid : Prop := journalOpensUptoRow.holds Tryd.pinned (OpenSpec.upto journalOpensSpec)

/-- 'liverylaw18.JournalBack', WHERE WHAT IT READS IS OF BULK AT MOST 1048576: true; the input reads as it did. -/
def journalBackUptoRow : OpenClaim := { program := "ytgbahfggnbpnmaadoor", sum := "9f2e16f68944e229949c29076d93d3db264171f80f5e8e26112582322c95e112", func := "livery/liverylaw18.JournalBack", spec := "journalBack", unfollowed := true, recurses := true, named := ["livery/sha2.start", "livery/sha2.table"], apart := false, laid := [("livery/sha2.table", laid_livery_sha2_table), ("livery/sha2.start", laid_livery_sha2_start)], narrowed := true }
def JournalBackUptoSaid : Prop := journalBackUptoRow.holds Tryd.pinned (OpenSpec.upto journalBackSpec)

/-- 'liverylaw18.JournalWhole', WHERE WHAT IT READS IS OF BULK AT MOST 1048576: true; the input reads as it did. -/
def journalWholeUptoRow : OpenClaim := { program := "ytgbahfggnbpnmaadoor", sum := "9f2e16f68944e229949c29076d93d3db264171f80f5e8e26112582322c95e112", func := "livery/liverylaw18.JournalWhole", spec := "journalWhole", unfollowed := true, recurses := true, named := ["livery/sha2.start", "livery/sha2.table"], apart := false, laid := [("livery/sha2.table", laid_livery_sha2_table), ("livery/sha2.start", laid_livery_sha2_start)], narrowed := true }
def JournalWholeUptoSaid : Prop := journalWholeUptoRow.holds Tryd.pinned (OpenSpec.upto journalWholeSpec)

end Rows
end Go.Proofs.YtgbahfggnbpnmaaDoor
