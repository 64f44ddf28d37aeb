/- Contracts of l1Words, l1Put and the reference's ReqPut; condition: 64-bit numbers. -/
import Derived.Test.YtofedboeggdkaaaDec
namespace Go.Proofs.Ytofedboeggdkaaa
open Go.RowKit Go.Joins

theorem wpAnyH_weaken {P : Program} {md : Region.Mode} {ops : Array Oper} {Q : Exit → Act → World → Prop} {S S' : World → Prop} (hs : ∀ w, S' w → S w) :
    ∀ (fuel : Nat) (listed : Array Bool) (a : Act) (w : World), wpAnyH P md ops Q S' fuel listed a w → wpAnyH P md ops Q S fuel listed a w
  | 0, _, _, _, h => h
  | fuel + 1, _, _, _, h => ⟨h.1, fun i hi => wpOp_mono (fun a' w' h' => ⟨hs w' h'.1, wpAnyH_weaken hs fuel _ a' w' h'.2⟩) (h.2 i hi)⟩

theorem itoa_len (n : Int) (h0 : -4611686018427387904 ≤ n) (h1 : n ≤ 4611686018427387904) : (Lib.itoa n).length ≤ 21 := Lib.itoa_length_le n (by omega) (by omega)

/-- The words of the operations. -/
def words : List (List UInt8) := [[], [106, 111, 105, 110], [109, 111, 118, 101], [116, 97, 107, 101], [104, 105, 116], [103, 105, 118, 101]]
def wordsBlock : Obj := .cells #[.string ⟨#[]⟩, .string ⟨#[106, 111, 105, 110]⟩, .string ⟨#[109, 111, 118, 101]⟩, .string ⟨#[116, 97, 107, 101]⟩, .string ⟨#[104, 105, 116]⟩, .string ⟨#[103, 105, 118, 101]⟩] 9 (0, 0)
/-- What is written of a request. -/
def putL (c n o x y : Int) : List UInt8 := Lib.itoa c ++ [32] ++ Lib.itoa n ++ [32] ++ words.getD o.toNat [] ++ [32] ++ Lib.itoa x ++ [32] ++ Lib.itoa y

end Go.Proofs.Ytofedboeggdkaaa
