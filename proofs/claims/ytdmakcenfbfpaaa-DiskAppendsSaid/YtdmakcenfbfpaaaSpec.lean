/- Plain functions: what the program's functions compute. No program in sight. -/
namespace Go.Proofs.Ytdmakcenfbfpaaa
/-- varint.Get from the byte 'i' on, 'n' being what was read so far. -/
def getGo : List Int → Nat → Int → Int × Int × Int
  | [], _, _ => (0, 0, 4)
  | c :: cs, i, n =>
    if i = 9 ∧ 1 < c then (0, 0, 6)
    else if c < 128 then (if c = 0 ∧ 0 < i then (0, 0, 3) else (n + c * 2 ^ (7 * i), i + 1, 0))
    else getGo cs (i + 1) (n + (c - 128) * 2 ^ (7 * i))
def getv (l : List Int) : Int × Int × Int := getGo l 0 0
end Go.Proofs.Ytdmakcenfbfpaaa
