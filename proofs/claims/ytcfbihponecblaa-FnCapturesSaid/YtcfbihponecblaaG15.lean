/- Nothing. -/
import Derived.Test.YtcfbihponecblaaG14

